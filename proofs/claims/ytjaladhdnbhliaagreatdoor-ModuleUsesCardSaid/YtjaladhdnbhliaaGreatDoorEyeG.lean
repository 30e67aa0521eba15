/- Texts that belong together: Sight, Sees, One, EyeOps, EyeAll, EyeKind, EyeHead, EyeTail, EyeExpr, EyeFun. -/
import Derived.Test.YtjaladhdnbhliaaGreatDoorReadPlain
import Derived.Test.YtjaladhdnbhliaaGreatDoorGrew
import Derived.Test.YtjaladhdnbhliaaGreatDoorReadG
import Derived.Test.YtjaladhdnbhliaaGreatDoorRows
import Derived.Test.YtjaladhdnbhliaaGreatDoorName
import Derived.Deep.QuietTactic
import Derived.Deep.RegionHeld3
import Derived.Deep.RegionLaw
import Derived.Deep.DeepCutAuto
import Derived.BigQuiet
import Derived.WalkSmall
import Derived.Handy
import Derived.StillTailTactics
/- The reference's reader of tokens: where it stands; (*eye).bad, sees, wants, one, ident, down. -/
namespace Go.Proofs.YtjaladhdnbhliaaGreatDoor
open Go.RowKit Go.Shelf

/-- From world w on the reader at block b has come to place i of tokens T; what is wrong; how deep it is. -/
structure Sight (b : Nat) (F : Foot) (A : Option Addr) (c : Nat) (T : List Token) (w W : World) (i : Nat) (e d : Int) : Prop where
  box : Box W b 204 #[.slice A T.length c, .int .i64 i, .int .i64 e, .int .i64 d]
  toks : SliceOf TokenR 2 24 W F (.slice A T.length c) T
  grew : Grew b w W (some b)
  foot : ∀ k, F k → k < b
  le : i ≤ T.length
  fine : ∀ t ∈ T, t.kind = 2 → numOk t.text = true
  len : T.length ≤ 200

section
variable {b : Nat} {F : Foot} {A : Option Addr} {c : Nat} {T : List Token} {w W W' : World} {i i' : Nat} {e e' d d' : Int}
theorem Sight.lt (h : Sight b F A c T w W i e d) : b < W.heap.size := h.box.lt
theorem Sight.size (h : Sight b F A c T w W i e d) : w.heap.size ≤ W.heap.size := h.grew.size
theorem Sight.start (h : Sight b F A c T w W i e d) : Sight b F A c T W W i e d := ⟨h.box, h.toks, Grew.refl_ _ _ _ some_le, h.foot, h.le, h.fine, h.len⟩
theorem Sight.trans (h : Sight b F A c T w W i e d) (k : Sight b F A c T W W' i' e' d') : Sight b F A c T w W' i' e' d' := ⟨k.box, k.toks, h.grew.trans_ k.grew, k.foot, k.le, k.fine, k.len⟩
theorem Sight.keep (h : Sight b F A c T w W i e d) (hk : ∀ k, k < W.heap.size → (F k ∨ k = b) → W'.heap[k]? = W.heap[k]?) (hg : Grew b w W' (some b)) : Sight b F A c T w W' i e d :=
  ⟨h.box.of_heap (hk b h.lt (.inr rfl)), h.toks.stays TokenR.stays (fun _ h => h) (keeps_of_heap fun k hF => hk k (Nat.lt_trans (h.foot k hF) h.lt) (.inl hF)), hg, h.foot, h.le, h.fine, h.len⟩
theorem Sight.below (h : Sight b F A c T w W i e d) (hb : Below W.heap.size W W') : Sight b F A c T w W' i e d := h.keep (fun k hk _ => hb.block k hk) (h.grew.trans_ (Grew.of_below hb some_le))
theorem Sight.drew (h : Sight b F A c T w W i e d) : Sight b F A c T w W.drew i e d := h.below (by go_grown)
theorem Sight.drewN (h : Sight b F A c T w W i e d) (n : Nat) : Sight b F A c T w (W.drewN n) i e d := h.below (below_drewN (Below.refl _ _) n)
theorem Sight.alloc (h : Sight b F A c T w W i e d) (o : Obj) : Sight b F A c T w (W.alloc o) i e d := h.below ((Below.refl _ _).alloc (Nat.le_refl _) o)
theorem Sight.then_ (h : Sight b F A c T w W i e d) {row : Option Nat} (hg : Grew w.heap.size W W' row) (hb : b < w.heap.size) : Sight b F A c T w W' i e d :=
  h.keep (fun k hk hk2 => hg.block k hk (fun e => by
      have := hg.low k e.symm
      rcases hk2 with h2 | h2
      · have := h.foot k h2; omega
      · omega)) (h.grew.then_ hg)
theorem Sight.set (h : Sight b F A c T w W i e d) {p : Addr} (hp : w.heap.size ≤ p.block) (hb : b < w.heap.size) (u : Value) : Sight b F A c T w (W.setCell p u) i e d :=
  h.keep (fun k _ hk => Below.heap_setCell _ _ _ _ (fun e => by
      rcases hk with hk | hk
      · have := h.foot k hk; omega
      · omega)) (h.grew.set_new hp u)
theorem Sight.put (h : Sight b F A c T w W i e d) (j : Nat) (u : Value) (hi : i' ≤ T.length) (hb : (#[.slice A T.length c, .int .i64 i, .int .i64 e, .int .i64 d] : Array Value).setIfInBounds j u = #[.slice A T.length c, .int .i64 i', .int .i64 e', .int .i64 d']) :
    Sight b F A c T w (W.setCell ⟨b, j, none⟩ u) i' e' d' :=
  ⟨by have := h.box.put j u; rw [hb] at this; exact this, h.toks.stays TokenR.stays (fun _ h => h) ((Keeps.refl _ _).setCell (fun hF => Nat.lt_irrefl _ (h.foot _ hF)) _), h.grew.trans_ (Grew.cell_ _ _ _), h.foot, hi, h.fine, h.len⟩
end

/-- What comes of a reading that has come so far: it goes on with q, or something is wrong. -/
def St {α : Type} (R : Except Int (α × List Token)) (q : Pr α) (T : List Token) (i : Nat) (e : Int) : Prop := (e = 0 ∧ R = q (T.drop i)) ∨ (e ≠ 0 ∧ R = .error e)
/-- What comes of p from here. -/
def Rs {α : Type} (p : Pr α) (T : List Token) (i : Nat) (e : Int) : Except Int (α × List Token) := if e = 0 then p (T.drop i) else .error e
def badE (e k : Int) : Int := if e = 0 then k else e
section
variable {α β : Type} {R : Except Int (β × List Token)} {p q r : Pr α} {T : List Token} {i i' : Nat} {e e' k : Int} {x : α} {s : ByteArray}
theorem St.start (p : Pr β) : St (Rs p T i e) p T i e := by
  unfold Rs
  by_cases h : e = 0
  · rw [if_pos h]; exact .inl ⟨h, rfl⟩
  · rw [if_neg h]; exact .inr ⟨h, rfl⟩
theorem St.then_ {f : α → Pr β} (h : St R (prThen p f) T i e) (hp : St (Rs p T i e) (prPure x) T i' e') : St R (f x) T i' e' := by
  rcases h with ⟨rfl, h⟩ | ⟨h0, h⟩
  · unfold Rs at hp
    rw [if_pos rfl] at hp
    rcases hp with ⟨h1, h2⟩ | ⟨h1, h2⟩
    · exact .inl ⟨h1, h.trans (prThen_ok h2)⟩
    · exact .inr ⟨h1, h.trans (prThen_err h2)⟩
  · unfold Rs at hp
    rw [if_neg h0] at hp
    rcases hp with ⟨h1, h2⟩ | ⟨h1, h2⟩
    · cases h2
    · injection h2 with h2
      exact .inr ⟨h1, by rw [h, h2]⟩
theorem St.bad {q q' : Pr β} (h : St R q T i e) (hq : e = 0 → q (T.drop i) = .error k) (hk : k ≠ 0) : St R q' T i' (badE e k) := by
  unfold badE
  rcases h with ⟨rfl, h⟩ | ⟨h0, h⟩
  · rw [if_pos rfl]; exact .inr ⟨hk, h.trans (hq rfl)⟩
  · rw [if_neg h0]; exact .inr ⟨h0, h⟩
theorem St.eq {q q' : Pr β} (h : St R q T i e) (hq : e = 0 → q (T.drop i) = q' (T.drop i')) : St R q' T i' e := by
  rcases h with ⟨rfl, h⟩ | ⟨h0, h⟩
  · exact .inl ⟨rfl, h.trans (hq rfl)⟩
  · exact .inr ⟨h0, h⟩
theorem St.stuck {q q' : Pr β} (h : St R q T i e) (h0 : e ≠ 0) : St R q' T i' e := h.elim (fun h => absurd h.1 h0) (fun h => .inr h)
end
/-- Is the sign next. -/
def Seen (s : ByteArray) (T : List Token) (i : Nat) (e : Int) (z : Bool) (i' : Nat) : Prop := (z = false ∧ i' = i ∧ (e = 0 → prTake s (T.drop i) = none)) ∨ (z = true ∧ e = 0 ∧ prTake s (T.drop i) = some (T.drop i'))
section
variable {β : Type} {R : Except Int (β × List Token)} {p q : Pr β} {T : List Token} {i i' : Nat} {e : Int} {s : ByteArray}
theorem St.yes (h : St R (prIf s p q) T i e) (hs : Seen s T i e true i') : St R p T i' e := by
  rcases hs with ⟨h1, _⟩ | ⟨_, rfl, h2⟩
  · cases h1
  · exact h.eq (fun _ => prIf_yes h2)
theorem St.no (h : St R (prIf s p q) T i e) (hs : Seen s T i e false i') : i' = i ∧ St R q T i e := by
  rcases hs with ⟨_, rfl, h2⟩ | ⟨h1, _⟩
  · exact ⟨rfl, h.eq (fun h0 => prIf_no (h2 h0))⟩
  · cases h1
end

theorem drop_cons_get {T : List Token} {i : Nat} (h : i < T.length) : T.drop i = T[i] :: T.drop (i + 1) := List.drop_eq_getElem_cons h

set_option maxRecDepth 100000 in
set_option maxHeartbeats 2000000 in
theorem ebad_any {b : Nat} {F : Foot} {A : Option Addr} {c : Nat} {T : List Token} {w W : World} {i : Nat} {e d : Int} (k : Int) (h : Sight b F A c T w W i e d) :
    Calls Tryz.prog 146 #[.pointer (some ⟨b, 0, none⟩), .int .i64 k] W fun en w' => en = .returned (.tuple #[]) ∧ Sight b F A c T w w' i (badE e k) d := by
  have hB := h.box
  have x2 := hB.at_ 2 _ rfl
  have g2 := hB.free 2
  have hle := h.le
  have HH := Lib.hid h
  clear h
  clear hB
  by_cases he : e = 0
  · subst he
    go_enter Tryz.func146, Tryz.ntmps146
    go_wp2_with fail
    go_end0
    exact ⟨rfl, HH.out.put 2 _ hle (by simp [badE])⟩
  · have hez : (e == 0) = false := by simp [he]
    have hE : badE e k = e := by unfold badE; rw [if_neg he]
    rw [hE]
    clear he hE
    go_enter Tryz.func146, Tryz.ntmps146
    go_wp2_with fail
    go_end0
    exact ⟨rfl, HH.out⟩

end Go.Proofs.YtjaladhdnbhliaaGreatDoor

/- The reference's reader of tokens: (*eye).sees, one. -/
namespace Go.Proofs.YtjaladhdnbhliaaGreatDoor
open Go.RowKit Go.Shelf

def GaveSeen (b : Nat) (F : Foot) (A : Option Addr) (c : Nat) (T : List Token) (w : World) (i : Nat) (e d : Int) (s : ByteArray) (en : Ending) (w' : World) : Prop := ∃ z i', en = .returned (.bool z) ∧ Seen s T i e z i' ∧ Sight b F A c T w w' i' e d
theorem tok_at {w : World} {F : Foot} {A : Option Addr} {n c : Nat} {T : List Token} {i : Nat} (h : SliceOf TokenR 2 24 w F (.slice A n c) T) (hi : i < T.length) :
    ∃ p off, A = some ⟨p, off, none⟩ ∧ F p ∧ I64 T[i].kind ∧ okS T[i].text ∧ w.cell? ⟨p, off + i * 2, none⟩ = some (.int .i64 T[i].kind) ∧ w.cell? ⟨p, off + i * 2 + 1, none⟩ = some (.string T[i].text) := by
  obtain ⟨p, off, cs, rfl, hF, _, hR, hc⟩ := h.at_ (k := i) hi
  obtain ⟨rfl, h1, h2⟩ : cs = [.int .i64 T[i].kind, .string T[i].text] ∧ I64 T[i].kind ∧ okS T[i].text := hR
  exact ⟨p, off, rfl, hF, h1, h2, by have := hc 0 _ rfl; simpa using this, by have := hc 1 _ rfl; simpa using this⟩


section
variable {b : Nat} {F : Foot} {A : Option Addr} {c : Nat} {T : List Token} {w W : World} {i : Nat} {e d : Int}
set_option maxRecDepth 100000 in
set_option maxHeartbeats 4000000 in
theorem sees_e (h : Sight b F A c T w W i e d) (s : ByteArray) (he : e ≠ 0) :
    Calls Tryz.prog 207 #[.pointer (some ⟨b, 0, none⟩), .string s] W (GaveSeen b F A c T w i e d s) := by
  have hB := h.box
  have x2 := hB.at_ 2 _ rfl
  have hez : (e == 0) = false := by simp [he]
  have hez2 : (e != 0) = true := by simp [he]
  have HH := Lib.hid h; have HE := Lib.hid he
  clear h he
  clear hB
  go_enter Tryz.func207, Tryz.ntmps207
  go_wp2_with fail
  go_quiet (fail)
  go_wp2_with fail
  go_ret
  exact ⟨false, i, rfl, .inl ⟨rfl, rfl, fun h => absurd h HE.out⟩, HH.out.drewN _⟩

set_option maxRecDepth 100000 in
set_option maxHeartbeats 4000000 in
theorem sees_end (h : Sight b F A c T w W i 0 d) (s : ByteArray) (hi : ¬ i < T.length) :
    Calls Tryz.prog 207 #[.pointer (some ⟨b, 0, none⟩), .string s] W (GaveSeen b F A c T w i 0 d s) := by
  have hB := h.box
  have x0 := hB.at_ 0 _ rfl
  have x1 := hB.at_ 1 _ rfl
  have x2 := hB.at_ 2 _ rfl
  have hlz : (T.length : Int) ≤ (i : Int) := by omega
  have hlz3 : (i : Int) ≥ (T.length : Int) := by omega
  have hdr : T.drop i = [] := List.drop_eq_nil_iff.2 (by omega)
  have HH := Lib.hid h; have HDR := Lib.hid hdr
  clear h hdr
  clear hB hi
  go_enter Tryz.func207, Tryz.ntmps207
  go_wp2_with fail
  go_quiet (fail)
  go_wp2_with fail
  go_ret
  exact ⟨false, i, rfl, .inl ⟨rfl, rfl, fun _ => by rw [HDR.out]; rfl⟩, HH.out.drewN _⟩

set_option maxRecDepth 100000 in
set_option maxHeartbeats 4000000 in
theorem sees_kind (h : Sight b F A c T w W i 0 d) (s : ByteArray) (hlt : i < T.length) (hk : T[i].kind ≠ 4) :
    Calls Tryz.prog 207 #[.pointer (some ⟨b, 0, none⟩), .string s] W (GaveSeen b F A c T w i 0 d s) := by
  have hB := h.box
  have hlen := h.len
  have x0 := hB.at_ 0 _ rfl
  have x1 := hB.at_ 1 _ rfl
  have x2 := hB.at_ 2 _ rfl
  have g1 := hB.free 1
  obtain ⟨p, off, rfl, hFp, hI, hO, c0, c1⟩ := tok_at h.toks hlt
  clear hI hO
  have hdr : prTake s (T.drop i) = none := by rw [drop_cons_get hlt, prTake_cons, if_neg]; exact fun h => hk h.1
  have hlz4 : decide (T.length ≤ i) = false := by simp; omega
  have hlz2 : ((i : Int) < (T.length : Int)) := by omega
  have hqz : (T[i].kind != 4) = true := by simp [hk]
  generalize T[i].kind = kd at *
  clear c1
  have HH := Lib.hid h; have HDR := Lib.hid hdr
  clear h hdr
  clear hB hFp hk
  go_enter Tryz.func207, Tryz.ntmps207
  go_wp2_with fail
  go_quiet (fail)
  go_wp2_with fail
  go_ret
  exact ⟨false, i, rfl, .inl ⟨rfl, rfl, fun _ => HDR.out⟩, HH.out.drewN _⟩

set_option maxRecDepth 100000 in
set_option maxHeartbeats 4000000 in
theorem sees_text (h : Sight b F A c T w W i 0 d) (s : ByteArray) (hlt : i < T.length) (hk : T[i].kind = 4) (ht : (T[i].text.toList == s.toList) = false) :
    Calls Tryz.prog 207 #[.pointer (some ⟨b, 0, none⟩), .string s] W (GaveSeen b F A c T w i 0 d s) := by
  have hB := h.box
  have hlen := h.len
  have x0 := hB.at_ 0 _ rfl
  have x1 := hB.at_ 1 _ rfl
  have x2 := hB.at_ 2 _ rfl
  have g1 := hB.free 1
  obtain ⟨p, off, rfl, hFp, hI, hO, c0, c1⟩ := tok_at h.toks hlt
  clear hI hO
  have hdr : prTake s (T.drop i) = none := by
    rw [drop_cons_get hlt, prTake_cons, if_neg]
    intro h; have h2 := h.2; unfold eqB at h2; rw [ht] at h2; cases h2
  have hlz4 : decide (T.length ≤ i) = false := by simp; omega
  have hlz2 : ((i : Int) < (T.length : Int)) := by omega
  rw [hk] at c0
  have htz : (!T[i].text.toList == s.toList) = true := by simp only [ht]; rfl
  generalize T[i].text = tx at *
  generalize T[i].kind = kd at *
  have HH := Lib.hid h; have HDR := Lib.hid hdr
  clear h hdr
  clear hB hFp hk ht
  go_enter Tryz.func207, Tryz.ntmps207
  go_wp2_with fail
  go_quiet (fail)
  go_wp2_with fail
  go_ret
  exact ⟨false, i, rfl, .inl ⟨rfl, rfl, fun _ => HDR.out⟩, HH.out.drewN _⟩

set_option maxRecDepth 100000 in
set_option maxHeartbeats 4000000 in
theorem sees_yes (h : Sight b F A c T w W i 0 d) (s : ByteArray) (hlt : i < T.length) (hk : T[i].kind = 4) (ht : (T[i].text.toList == s.toList) = true) :
    Calls Tryz.prog 207 #[.pointer (some ⟨b, 0, none⟩), .string s] W (GaveSeen b F A c T w i 0 d s) := by
  have hB := h.box
  have hlen := h.len
  have x0 := hB.at_ 0 _ rfl
  have x1 := hB.at_ 1 _ rfl
  have x2 := hB.at_ 2 _ rfl
  have g1 := hB.free 1
  obtain ⟨p, off, rfl, hFp, hI, hO, c0, c1⟩ := tok_at h.toks hlt
  clear hI hO
  have hdr : prTake s (T.drop i) = some (T.drop (i + 1)) := by
    rw [drop_cons_get hlt, prTake_cons, if_pos ⟨hk, ht⟩]
  have hlz4 : decide (T.length ≤ i) = false := by simp; omega
  have hlz2 : ((i : Int) < (T.length : Int)) := by omega
  rw [hk] at c0
  have htz : (!T[i].text.toList == s.toList) = false := by simp only [ht]; rfl
  have hle : i + 1 ≤ T.length := hlt
  generalize T[i].text = tx at *
  generalize T[i].kind = kd at *
  have HH := Lib.hid h; have HDR := Lib.hid hdr
  clear h hdr
  clear hB hFp hk ht
  go_enter Tryz.func207, Tryz.ntmps207
  go_wp2_with fail
  go_quiet (fail)
  go_wp2_with fail
  go_ret
  exact ⟨true, i + 1, rfl, .inr ⟨rfl, rfl, HDR.out⟩, (HH.out.drewN _).put 1 _ hle (by simp)⟩
end
theorem sees_any {b : Nat} {F : Foot} {A : Option Addr} {c : Nat} {T : List Token} {w W : World} {i : Nat} {e d : Int} (h : Sight b F A c T w W i e d) (s : ByteArray) :
    Calls Tryz.prog 207 #[.pointer (some ⟨b, 0, none⟩), .string s] W (GaveSeen b F A c T w i e d s) := by
  by_cases he : e = 0
  · subst he
    by_cases hlt : i < T.length
    · by_cases hk : T[i].kind = 4
      · cases ht : (T[i].text.toList == s.toList) with
        | false => exact sees_text h s hlt hk ht
        | true => exact sees_yes h s hlt hk ht
      · exact sees_kind h s hlt hk
    · exact sees_end h s hlt
  · exact sees_e h s he
end Go.Proofs.YtjaladhdnbhliaaGreatDoor

/- The reference's reader of tokens: (*eye).one. -/
namespace Go.Proofs.YtjaladhdnbhliaaGreatDoor
open Go.RowKit Go.Shelf

/-- The next token, an empty one at the end or where something is wrong. -/
def Oned (T : List Token) (i : Nat) (e : Int) (t : Token) (i' : Nat) : Prop := (e = 0 ∧ T.drop i = t :: T.drop i' ∧ t ∈ T) ∨ ((e = 0 → T.drop i = []) ∧ t = ⟨0, mt⟩ ∧ i' = i)
def GaveOne (b : Nat) (F : Foot) (A : Option Addr) (c : Nat) (T : List Token) (w : World) (i : Nat) (e d : Int) (en : Ending) (w' : World) : Prop :=
  ∃ t i', en = .returned (.agg #[.int .i64 t.kind, .string t.text]) ∧ Oned T i e t i' ∧ I64 t.kind ∧ okS t.text ∧ Sight b F A c T w w' i' e d

set_option maxRecDepth 100000 in
set_option maxHeartbeats 8000000 in
theorem one_any {b : Nat} {F : Foot} {A : Option Addr} {c : Nat} {T : List Token} {w W : World} {i : Nat} {e d : Int} (h : Sight b F A c T w W i e d) (hb : b < w.heap.size) :
    Calls Tryz.prog 141 #[.pointer (some ⟨b, 0, none⟩)] W (GaveOne b F A c T w i e d) := by
  have hlt0 := h.lt
  have hws := h.size
  have hle := h.le
  have hlen := h.len
  by_cases hq : e = 0 ∧ i < T.length
  · obtain ⟨rfl, hlt⟩ := hq
    have HH := Lib.hid h
    clear h
    go_enter Tryz.func141, Tryz.ntmps141
    go_upto_region 1 with fail
    have hBr := Box.made W 182 #[.int .i64 0, .string ⟨#[]⟩]
    have hbr : Below W.heap.size W (W.alloc (.cells #[.int .i64 0, .string ⟨#[]⟩] 182)) := by go_grown
    have hzr : (W.alloc (.cells #[.int .i64 0, .string ⟨#[]⟩] 182)).heap.size = W.heap.size + 1 := by simp
    generalize W.alloc (.cells #[.int .i64 0, .string ⟨#[]⟩] 182) = W1 at hBr hbr hzr ⊢
    have hL := HH.out.below hbr
    have hB := hL.box
    have hmem : T[i] ∈ T := List.getElem_mem hlt
    obtain ⟨p, off, rfl, hFp, hk, htx, c0, c1⟩ := tok_at hL.toks hlt
    have hdr := drop_cons_get hlt
    have hlz4 : decide (T.length ≤ i) = false := by simp; omega
    have hlz2 : ((i : Int) < (T.length : Int)) := by omega
    have hcap := (tok_cap hL.toks).1
    have hpb : p ≠ b := fun e => by have := hL.foot p hFp; omega
    have hne : W.heap.size ≠ b := by omega
    have hnp : p ≠ W.heap.size := fun e => by have := hL.foot p hFp; omega
    generalize T[i] = t at *
    obtain ⟨kd, tx⟩ := t
    dsimp only at *
    have hle2 : i + 1 ≤ T.length := hlt
    have x0 := hB.at_ 0 _ rfl
    have x1 := hB.at_ 1 _ rfl
    have x2 := hB.at_ 2 _ rfl
    have HL := Lib.hid hL; have HDR := Lib.hid hdr; have HK := Lib.hid hk; have HTX := Lib.hid htx; have C0 := Lib.hid c0; have C1 := Lib.hid c1; have HMEM := Lib.hid hmem; have HBR := Lib.hid hBr
    clear hL hdr hk htx c0 c1 hmem hBr
    clear hbr hzr hB hFp
    go_quiet (fail)
    obtain ⟨W2, hW2⟩ : ∃ X, X = W1.drewN nq := ⟨_, rfl⟩
    have hb2 : Below W1.heap.size W1 W2 := by rw [hW2]; exact below_drewN (Below.refl _ _) nq
    have hL := HL.out.below hb2
    have hBr := HBR.out.later hb2 HBR.out.lt
    have c0 : W2.cell? ⟨p, off + i * 2, none⟩ = some (.int .i64 kd) := by rw [hW2]; exact C0.out
    have c1 : W2.cell? ⟨p, off + i * 2 + 1, none⟩ = some (.string tx) := by rw [hW2]; exact C1.out
    have hB := hL.box
    rw [← hW2]
    clear hW2 x0 x1 x2 C0 C1
    have x0 := hB.at_ 0 _ rfl
    have x1 := hB.at_ 1 _ rfl
    have g1 := hB.free 1
    have hL2 := hL.put (e' := 0) (d' := d) (i' := i + 1) 1 (.int .i64 ((i : Int) + 1)) hle2 (by simp)
    have hB2 := hL2.box
    have c2 := (World.cell?_setCell_other W2 ⟨b, 1, none⟩ ⟨p, off + i * 2, none⟩ (.int .i64 ((i : Int) + 1)) (fun e => hpb (by injection e with e1; first | exact e1 | exact e1.symm))).trans c0
    have c3 := (World.cell?_setCell_other W2 ⟨b, 1, none⟩ ⟨p, off + i * 2 + 1, none⟩ (.int .i64 ((i : Int) + 1)) (fun e => hpb (by injection e with e1; first | exact e1 | exact e1.symm))).trans c1
    have hR2 := hBr.far (p := ⟨b, 1, none⟩) hne (.int .i64 ((i : Int) + 1))
    have HL2 := Lib.hid hL2; have HB2 := Lib.hid hB2; have HR2 := Lib.hid hR2; have C2 := Lib.hid c2; have C3 := Lib.hid c3
    clear hL2 hB2 hR2 c2 c3
    clear hBr hb2 hB HL hL HH c0 c1 HBR
    go_upto_region 4 with fail
    obtain ⟨W3, hW3⟩ : ∃ X, X = W2.setCell ⟨b, 1, none⟩ (.int .i64 ((i : Int) + 1)) := ⟨_, rfl⟩
    have hL := HL2.out
    have hB := HB2.out
    have hBr := HR2.out
    have c2 := C2.out
    have c3 := C3.out
    rw [← hW3] at hL hB hBr c2 c3 ⊢
    clear HL2 HB2 HR2 C2 C3 x0 x1 g1 hW3
    have x0 := hB.at_ 0 _ rfl
    have x1 := hB.at_ 1 _ rfl
    have z0 := hBr.at_ 0 _ rfl
    have z1 := hBr.at_ 1 _ rfl
    have q0 := hBr.free 0
    have q1 := hBr.free 1
    have hi1 : IntKind.i64.wrap (i : Int) = (i : Int) := IntWalk.i64_in _ (by omega)
    have HL := Lib.hid hL
    clear hL
    clear hB hBr
    go_still_tail 11, (by kernel_rfl)
    change wpList _ _ _ _ _ W3.drew
    go_wp2_with fail
    refine bodyPost_ret (v := .agg #[.int .i64 kd, .string tx]) (by simp [results, Tryz.results141, go_sem, z0, z1]) rfl ?_
    exact ⟨⟨kd, tx⟩, i + 1, rfl, .inl ⟨rfl, HDR.out, HMEM.out⟩, HK.out, HTX.out, (HL.out.drew.set (p := ⟨W.heap.size, 0, none⟩) hws hb _).set (p := ⟨W.heap.size, 1, none⟩) hws hb _⟩
  · by_cases he : e = 0
    · subst he
      have hlt : ¬ i < T.length := fun h => hq ⟨rfl, h⟩
      have hdr : T.drop i = [] := List.drop_eq_nil_iff.2 (by omega)
      have hlz : (T.length : Int) ≤ (i : Int) := by omega
      have HH := Lib.hid h; have HDR := Lib.hid hdr
      clear h hdr
      clear hq hlt
      go_enter Tryz.func141, Tryz.ntmps141
      go_upto_region 1 with fail
      have hBr := Box.made W 182 #[.int .i64 0, .string ⟨#[]⟩]
      have hbr : Below W.heap.size W (W.alloc (.cells #[.int .i64 0, .string ⟨#[]⟩] 182)) := by go_grown
      have hzr : (W.alloc (.cells #[.int .i64 0, .string ⟨#[]⟩] 182)).heap.size = W.heap.size + 1 := by simp
      generalize W.alloc (.cells #[.int .i64 0, .string ⟨#[]⟩] 182) = W1 at hBr hbr hzr ⊢
      have hL := HH.out.below hbr
      have hB := hL.box
      have x0 := hB.at_ 0 _ rfl
      have x1 := hB.at_ 1 _ rfl
      have x2 := hB.at_ 2 _ rfl
      have HL := Lib.hid hL; have HBr := Lib.hid hBr
      clear hL hBr
      clear hB hbr hzr
      go_quiet (fail)
      obtain ⟨W2, hW2⟩ : ∃ X, X = W1.drewN nq := ⟨_, rfl⟩
      have hb2 : Below W1.heap.size W1 W2 := by rw [hW2]; exact below_drewN (Below.refl _ _) nq
      have hL := HL.out.below hb2
      have hBr := HBr.out.later hb2 HBr.out.lt
      rw [← hW2]
      clear hW2 x0 x1 x2 hb2
      have z0 := hBr.at_ 0 _ rfl
      have z1 := hBr.at_ 1 _ rfl
      have q0 := hBr.free 0
      have q1 := hBr.free 1
      have HL2 := Lib.hid hL
      clear hL
      clear HL HBr HH hBr
      go_wp2_with fail
      refine bodyPost_ret (v := .agg #[.int .i64 0, .string mt]) (by simp [results, Tryz.results141, go_sem, z0, z1, mt]) rfl ?_
      exact ⟨⟨0, mt⟩, i, rfl, .inr ⟨fun _ => HDR.out, rfl, rfl⟩, ⟨by decide, by decide⟩, by unfold okS mt; decide, (HL2.out.set (p := ⟨W.heap.size, 0, none⟩) hws hb _).set (p := ⟨W.heap.size, 1, none⟩) hws hb _⟩
    · have hez : (e == 0) = false := by simp [he]
      have hez2 : (e != 0) = true := by simp [he]
      have HH := Lib.hid h; have HE := Lib.hid he
      clear h he
      clear hq
      go_enter Tryz.func141, Tryz.ntmps141
      go_upto_region 1 with fail
      have hBr := Box.made W 182 #[.int .i64 0, .string ⟨#[]⟩]
      have hbr : Below W.heap.size W (W.alloc (.cells #[.int .i64 0, .string ⟨#[]⟩] 182)) := by go_grown
      have hzr : (W.alloc (.cells #[.int .i64 0, .string ⟨#[]⟩] 182)).heap.size = W.heap.size + 1 := by simp
      generalize W.alloc (.cells #[.int .i64 0, .string ⟨#[]⟩] 182) = W1 at hBr hbr hzr ⊢
      have hL := HH.out.below hbr
      have hB := hL.box
      have x0 := hB.at_ 0 _ rfl
      have x1 := hB.at_ 1 _ rfl
      have x2 := hB.at_ 2 _ rfl
      have HL := Lib.hid hL; have HBr := Lib.hid hBr
      clear hL hBr
      clear hB hbr hzr
      go_quiet (fail)
      obtain ⟨W2, hW2⟩ : ∃ X, X = W1.drewN nq := ⟨_, rfl⟩
      have hb2 : Below W1.heap.size W1 W2 := by rw [hW2]; exact below_drewN (Below.refl _ _) nq
      have hL := HL.out.below hb2
      have hBr := HBr.out.later hb2 HBr.out.lt
      rw [← hW2]
      clear hW2 x0 x1 x2 hb2
      have z0 := hBr.at_ 0 _ rfl
      have z1 := hBr.at_ 1 _ rfl
      have q0 := hBr.free 0
      have q1 := hBr.free 1
      have HL2 := Lib.hid hL
      clear hL
      clear HL HBr HH hBr
      go_wp2_with fail
      refine bodyPost_ret (v := .agg #[.int .i64 0, .string mt]) (by simp [results, Tryz.results141, go_sem, z0, z1, mt]) rfl ?_
      exact ⟨⟨0, mt⟩, i, rfl, .inr ⟨fun h => absurd h HE.out, rfl, rfl⟩, ⟨by decide, by decide⟩, by unfold okS mt; decide, (HL2.out.set (p := ⟨W.heap.size, 0, none⟩) hws hb _).set (p := ⟨W.heap.size, 1, none⟩) hws hb _⟩

end Go.Proofs.YtjaladhdnbhliaaGreatDoor

/- The reference's reader of tokens: (*eye).wants, ident, down. -/
namespace Go.Proofs.YtjaladhdnbhliaaGreatDoor
open Go.RowKit Go.Shelf

/-- What a sticky reading gives. -/
def GaveEye {α : Type} (V : World → Foot → Value → α → Prop) (b : Nat) (F : Foot) (A : Option Addr) (c : Nat) (T : List Token) (W : World) (p : Pr α) (i : Nat) (e d : Int) (en : Ending) (w' : World) : Prop :=
  ∃ x v i' e', en = .returned v ∧ V w' (fresh W.heap.size w'.heap.size) v x ∧ St (Rs p T i e) (prPure x) T i' e' ∧ Sight b F A c T W w' i' e' d

section
variable {b : Nat} {F : Foot} {A : Option Addr} {c : Nat} {T : List Token} {w W : World} {i : Nat} {e d : Int}
set_option maxRecDepth 100000 in
set_option maxHeartbeats 2000000 in
theorem wants_any (h : Sight b F A c T W W i e d) (s : ByteArray) :
    Calls Tryz.prog 143 #[.pointer (some ⟨b, 0, none⟩), .string s] W (GaveEye UnitV b F A c T W (prMust s) i e d) := by
  have hs := sees_any h s
  have HS := Lib.hid hs
  clear hs
  clear h
  go_enter Tryz.func143, Tryz.ntmps143
  go_wp2_with fail
  refine HS.out.mono ?_
  rintro en w' ⟨z, i', rfl, hz, hl⟩
  cases z with
  | true =>
    have HZ := Lib.hid hz; have HL := Lib.hid hl
    clear hz hl
    go_wp2_with fail
    go_end0
    refine ⟨(), _, i', e, rfl, rfl, ?_, HL.out⟩
    rcases HZ.out with ⟨h, _⟩ | ⟨_, h0, h1⟩
    · cases h
    · exact (St.start (prMust s)).eq (fun _ => prMust_yes h1)
  | false =>
    have hb := ebad_any 4 hl
    have HZ := Lib.hid hz; have HB := Lib.hid hb
    clear hz hb
    clear hl
    go_wp2_with fail
    refine HB.out.mono ?_
    rintro en w2 ⟨rfl, hl⟩
    have HL := Lib.hid hl
    clear hl
    go_wp2_with fail
    go_end0
    rcases HZ.out with ⟨_, rfl, h1⟩ | ⟨h, _⟩
    · exact ⟨(), _, _, _, rfl, rfl, (St.start (prMust s)).bad (fun h0 => prMust_no (h1 h0)) (by decide), HL.out⟩
    · cases h

set_option maxRecDepth 100000 in
set_option maxHeartbeats 2000000 in
theorem eident_any (h : Sight b F A c T W W i e d) :
    Calls Tryz.prog 142 #[.pointer (some ⟨b, 0, none⟩)] W (GaveEye StrV b F A c T W prName i e d) := by
  have hs := one_any h h.lt
  have HS := Lib.hid hs
  clear hs
  clear h
  go_enter Tryz.func142, Tryz.ntmps142
  go_wp2_with fail
  refine HS.out.mono ?_
  rintro en W1 ⟨t, i', rfl, hN, hk, htx, hL⟩
  have hid := fun U => nameMay_any t.text U htx
  obtain ⟨z, hz⟩ : ∃ z, (nameOk t.text) = z := ⟨_, rfl⟩
  rw [hz] at hid
  have Z := Lib.hid hz; clear hz
  have HID := Lib.hid hid; have HN := Lib.hid hN; have HTX := Lib.hid htx
  clear hid hN htx
  go_upto_region 2 with fail
  have hBt := Box.made W1 182 #[.int .i64 t.kind, .string t.text]
  have hbt : Below W1.heap.size W1 (W1.alloc (.cells #[.int .i64 t.kind, .string t.text] 182)) := by go_grown
  have hzt : (W1.alloc (.cells #[.int .i64 t.kind, .string t.text] 182)).heap.size = W1.heap.size + 1 := by simp
  generalize W1.alloc (.cells #[.int .i64 t.kind, .string t.text] 182) = W2 at hBt hbt hzt ⊢
  have hL2 := hL.below hbt
  have hb := fun U (hU : Below W2.heap.size W2 U) => ebad_any 4 (hL2.below hU).start
  have x0 := hBt.at_ 0 _ rfl
  have x1 := hBt.at_ 1 _ rfl
  have hnb : W1.heap.size ≠ b := by have := hL.lt; omega
  have HL := Lib.hid hL2; have HB := Lib.hid hBt; have HBAD := Lib.hid hb
  clear hL2 hBt hb
  clear hbt hzt hL
  have hbad : ¬ (t.kind = 1 ∧ z = true) → e = 0 → prName (T.drop i) = .error 4 := fun hn h0 => by
    rcases HN.out with ⟨_, h1, _⟩ | ⟨h1, _, _⟩
    · rw [h1, prName_cons, if_neg (by rw [Z.out]; exact hn)]
    · rw [h1 h0]; rfl
  have hgood : (t.kind = 1 ∧ z = true) → e = 0 → prName (T.drop i) = .ok (t.text, T.drop i') := fun hn h0 => by
    rcases HN.out with ⟨_, h1, _⟩ | ⟨_, h1, _⟩
    · rw [h1, prName_cons, if_pos (by rw [Z.out]; exact hn)]
    · rw [h1] at hn; exact absurd hn.1 (by decide)
  have HBD := Lib.hid hbad; have HGOOD := Lib.hid hgood
  clear hbad hgood
  cases hq : (t.kind == 1) with
  | false =>
    have HQ := Lib.hid hq
    have hqz : (t.kind != 1) = true := by simp only [bne, hq]; rfl
    go_wp2_with fail
    refine (HBAD.out _ (by go_grown)).mono ?_
    rintro en w2 ⟨rfl, hl⟩
    have hB2 := hl.grew.box_ HB.out hnb
    have hL3 := HL.out.trans hl
    clear x0 x1
    have x0 := hB2.at_ 0 _ rfl
    have x1 := hB2.at_ 1 _ rfl
    have HL3 := Lib.hid hL3
    clear hL3
    clear hB2 hl
    go_wp2_with fail
    go_ret
    exact ⟨t.text, _, i', badE e 4, rfl, ⟨rfl, HTX.out⟩, (St.start prName).bad (fun h0 => HBD.out (fun h => by have := HQ.out; simp at this; exact this h.1) h0) (by decide), HL3.out⟩
  | true =>
    have HQ := Lib.hid hq
    have hqz : (t.kind != 1) = false := by simp only [bne, hq]; rfl
    cases z with
    | false =>
      go_wp2_with (go_at_call 98; (with_reducible refine (HID.out _).mono ?_); rintro en w' ⟨rfl, rfl⟩)
      refine (HBAD.out _ (by go_grown)).mono ?_
      rintro en w2 ⟨rfl, hl⟩
      have hB2 := hl.grew.box_ HB.out hnb
      have hL3 := HL.out.trans hl
      clear x0 x1
      have x0 := hB2.at_ 0 _ rfl
      have x1 := hB2.at_ 1 _ rfl
      have HL3 := Lib.hid hL3
      clear hL3
      clear hB2 hl
      go_wp2_with fail
      go_ret
      exact ⟨t.text, _, i', badE e 4, rfl, ⟨rfl, HTX.out⟩, (St.start prName).bad (fun h0 => HBD.out (fun h => by cases h.2) h0) (by decide), HL3.out⟩
    | true =>
      go_wp2_with (go_at_call 98; (with_reducible refine (HID.out _).mono ?_); rintro en w' ⟨rfl, rfl⟩)
      go_ret
      exact ⟨t.text, _, i', e, rfl, ⟨rfl, HTX.out⟩, (St.start prName).eq (fun h0 => HGOOD.out ⟨by simpa using HQ.out, (by first | rfl | trivial)⟩ h0), HL.out⟩

set_option maxRecDepth 100000 in
set_option maxHeartbeats 2000000 in
theorem down_fine (h : Sight b F A c T w W i e d) (h0 : 0 ≤ d) (hd : d < 40) :
    Calls Tryz.prog 208 #[.pointer (some ⟨b, 0, none⟩)] W fun en w' => en = .returned (.tuple #[]) ∧ Sight b F A c T w w' i e (d + 1) := by
  have hB := h.box
  have hle := h.le
  have x3 := hB.at_ 3 _ rfl
  have g3 := hB.free 3
  have hz : decide ((40 : Int) < d + 1) = false := by simp; omega
  have HH := Lib.hid h
  clear h
  clear hB
  go_enter Tryz.func208, Tryz.ntmps208
  go_wp2_with fail
  go_end0
  exact ⟨rfl, HH.out.put 3 _ hle (by simp)⟩
set_option maxRecDepth 100000 in
set_option maxHeartbeats 2000000 in
theorem down_deep (h : Sight b F A c T w W i e 40) :
    Calls Tryz.prog 208 #[.pointer (some ⟨b, 0, none⟩)] W fun en w' => en = .returned (.tuple #[]) ∧ Sight b F A c T w w' i (badE e 1) 41 := by
  have hB := h.box
  have hb := ebad_any 1 (h.put (e' := e) (d' := 41) (i' := i) 3 (.int .i64 41) h.le (by simp))
  have x3 := hB.at_ 3 _ rfl
  have g3 := hB.free 3
  have HH := Lib.hid h; have HB := Lib.hid hb
  clear h hb
  clear hB
  go_enter Tryz.func208, Tryz.ntmps208
  go_wp2_with fail
  refine HB.out.mono ?_
  rintro en w2 ⟨rfl, hl⟩
  have HL := Lib.hid hl
  clear hl
  go_wp2_with fail
  go_end0
  exact ⟨rfl, HL.out⟩
end

end Go.Proofs.YtjaladhdnbhliaaGreatDoor

/- The reference's reader of tokens: a list of expressions, (*eye).all. -/
namespace Go.Proofs.YtjaladhdnbhliaaGreatDoor
open Go.RowKit Go.Shelf

/-- What the reference's expr gives, where it may nest so deep. -/
def EyeGives (b : Nat) (F : Foot) (A : Option Addr) (c : Nat) (T : List Token) (f : Nat) : Prop := ∀ (W : World) (i : Nat) (e d : Int), Sight b F A c T W W i e d → d + f = 40 → 0 ≤ d →
  Calls Tryz.prog 209 #[.pointer (some ⟨b, 0, none⟩)] W (GaveEye (AggV ExR) b F A c T W (prExpr f) i e d)
/-- What is left to read, if nothing is wrong. -/
def left (T : List Token) (i : Nat) (e : Int) : Nat := if e = 0 then (T.drop i).length + 1 else 0
section
variable {α β : Type} {R : Except Int (β × List Token)} {T : List Token} {i i' : Nat} {e e' : Int} {s : ByteArray} {p : Pr α} {x : α}
theorem left_ok : left T i 0 = (T.drop i).length + 1 := rfl
theorem left_le : left T i e ≤ T.length + 1 := by
  unfold left
  split
  · rw [List.length_drop]; omega
  · omega
theorem left_drop : left T i e ≤ (T.drop i).length + 1 := by
  unfold left
  split
  · exact Nat.le_refl _
  · omega
theorem left_seen (h : Seen s T i e true i') : e = 0 ∧ left T i' 0 + 1 = left T i e := by
  rcases h with ⟨h, _⟩ | ⟨_, rfl, h⟩
  · cases h
  · have := take_len h
    exact ⟨rfl, by rw [left_ok, left_ok]; omega⟩
theorem left_short (hp : Short p) (h : St (Rs p T i e) (prPure x) T i' e') : left T i' e' ≤ left T i e := by
  unfold Rs at h
  rcases h with ⟨rfl, h⟩ | ⟨h0, h⟩
  · by_cases he : e = 0
    · subst he
      rw [if_pos rfl] at h
      have := hp _ _ _ h
      rw [left_ok, left_ok]; omega
    · rw [if_neg he] at h; cases h
  · unfold left; rw [if_neg h0]; exact Nat.zero_le _
theorem left_pos (h : e = 0) : (T.drop i).length + 1 = left T i e := by subst h; rfl
end

section
variable {β : Type} {R : Except Int (β × List Token)} {T : List Token} {i i' : Nat} {e : Int} {ex : Pr Ex} {m : Nat} {xs : List Ex} {K : List Ex → Pr β}
theorem st_more_stop (h : St R (prThen (prMore ex m xs) K) T i e) (hs : Seen sComma T i e false i') : i' = i ∧ St R (K xs) T i e := by
  rcases hs with ⟨_, rfl, hn⟩ | ⟨h, _⟩
  · exact ⟨rfl, h.eq (fun h0 => prThen_ok (more_stop (hn h0)))⟩
  · cases h
theorem st_more_go (h : St R (prThen (prMore ex m xs) K) T i e) (hs : Seen sComma T i e true i') (hm : left T i e ≤ m + 1) : ∃ m', m = m' + 1 ∧ St R (prThen ex fun y => prThen (prMore ex m' (xs ++ [y])) K) T i' 0 := by
  rcases hs with ⟨h1, _⟩ | ⟨_, rfl, hn⟩
  · cases h1
  · have h1 := take_len hn
    rw [left_ok] at hm
    obtain ⟨m', rfl⟩ : ∃ m', m = m' + 1 := ⟨m - 1, by omega⟩
    refine ⟨m', rfl, h.eq (fun _ => ?_)⟩
    rw [← prThen_assoc]
    have e2 : prMore ex (m' + 1) xs (T.drop i) = prThen ex (fun y => prMore ex m' (xs ++ [y])) (T.drop i') := prIf_yes hn
    unfold prThen at e2 ⊢
    rw [e2]
end

set_option maxRecDepth 100000 in
set_option maxHeartbeats 4000000 in
theorem eall_any {b : Nat} {F : Foot} {A : Option Addr} {c : Nat} {T : List Token} {f : Nat} (hx : EyeGives b F A c T f) (W : World) (i : Nat) (e d : Int) (s : ByteArray) (h : Sight b F A c T W W i e d) (hd : d + f = 40) (h0 : 0 ≤ d) :
    Calls Tryz.prog 283 #[.pointer (some ⟨b, 0, none⟩), .string s] W (GaveEye (SlV ExR 5 72) b F A c T W (prList (prExpr f) s) i e d) := by
  have hst : St (Rs (prList (prExpr f) s) T i e) (prList (prExpr f) s) T i e := St.start _
  obtain ⟨R, hR⟩ : ∃ R, Rs (prList (prExpr f) s) T i e = R := ⟨_, rfl⟩
  unfold GaveEye
  rw [hR] at hst ⊢
  have hbl := h.lt
  have h200 := h.len
  have hcx := hx W i e d h hd h0
  have hlw : left T i e ≤ T.length + 1 := left_le
  have HX := Lib.hid hx; have HH := Lib.hid h; have HCX := Lib.hid hcx; have HST := Lib.hid hst
  clear hx h hcx hst
  clear hR
  go_enter Tryz.func283, Tryz.ntmps283
  go_wp2_with fail
  refine HCX.out.mono ?_
  rintro en W1 ⟨x, v, i1, e1, rfl, ⟨cs, rfl, hX⟩, hst1, hl1⟩
  have hs1 := left_short (short_expr f) hst1
  have hst2 : St R (prThen (prMore (prExpr f) (T.drop i1).length [x]) fun xs => prThen (prMust s) fun _ => prPure xs) T i1 e1 := (HST.out.then_ hst1).eq (fun _ => rfl)
  obtain ⟨A1, c1, rfl⟩ := ExR.form hX
  have HST2 := Lib.hid hst2; have HXR := Lib.hid hX; have HL1 := Lib.hid hl1
  clear hst2 hX hl1
  clear hst1 HST HCX
  go_wp2_with fail
  have hBb := Box.made W1 81 #[.int .i64 x.kind, .int .i64 x.n, .string x.of_, .string x.s, .slice A1 x.args.length c1]
  have hbb : Below W1.heap.size W1 (W1.alloc (.cells #[.int .i64 x.kind, .int .i64 x.n, .string x.of_, .string x.s, .slice A1 x.args.length c1] 81)) := by go_grown
  have hzb : (W1.alloc (.cells #[.int .i64 x.kind, .int .i64 x.n, .string x.of_, .string x.s, .slice A1 x.args.length c1] 81)).heap.size = W1.heap.size + 1 := by simp
  generalize W1.alloc (.cells #[.int .i64 x.kind, .int .i64 x.n, .string x.of_, .string x.s, .slice A1 x.args.length c1] 81) = W2 at hBb hbb hzb ⊢
  have hw1 := HL1.out.size
  have hO : Owns ExR 5 81 W.heap.size W2 (fresh W.heap.size W1.heap.size) (.slice (some ⟨W1.heap.size, 0, none⟩) 1 1) [x] :=
    Owns.one (cs := [.int .i64 x.kind, .int .i64 x.n, .string x.of_, .string x.s, .slice A1 x.args.length c1]) hBb hw1 rfl (ExR.stays.later HXR.out hbb fresh_lt) (fun k hk => ⟨by have := hk.2; have := hbb.size; omega, by have := hk.2; omega⟩)
  have hL2 := HL1.out.below hbb
  have HO := Lib.hid hO; have HL2 := Lib.hid hL2
  clear hO hL2
  clear hBb hbb hzb HL1 HXR
  go_loopg [5] (left T i1 e1) (fun gg s5 wr => ∃ (m c2 : Nat) (A2 : Option Addr) (xs : List Ex) (j : Nat) (e2 : Int) (G : Foot), s5 = .slice A2 xs.length c2 ∧ left T j e2 ≤ gg ∧ left T j e2 ≤ m + 1 ∧ xs.length + left T j e2 ≤ 202 ∧ Aside (St R (prThen (prMore (prExpr f) m xs) fun xs => prThen (prMust s) fun _ => prPure xs) T j e2) ∧ Aside (Sight b F A c T W wr j e2 d) ∧
    Aside (Owns ExR 5 81 W.heap.size wr G (.slice A2 xs.length c2) xs) ∧ Aside (∀ k, G k → W.heap.size ≤ k))
  case atStart => exact ⟨(T.drop i1).length, 1, _, [x], i1, e1, _, rfl, Nat.le_refl _, left_drop, by rw [List.length_singleton]; omega, aside HST2.out, aside HL2.out, aside HO.out, aside (fun k hk => hk.1)⟩
  case round =>
    clear HST2 HL2 HO
    obtain ⟨m, c3, A3, xs, j, e2, G, rfl, hg, hm, h201, hM, hLk, hO3, hG⟩ := hrel
    obtain ⟨W3, rfl⟩ : ∃ W, W = wr := ⟨_, rfl⟩
    have htk := sees_any hLk.out.start sComma
    have HTK := Lib.hid htk
    clear htk
    go_wp2_with fail
    refine HTK.out.mono ?_
    rintro en W4 ⟨z, j4, rfl, hz, hl4⟩
    have hl4' := hLk.out.trans hl4
    have hO4 := hO3.out.read ExR.stays hl4.grew hbl hG.out
    cases z with
    | true =>
      obtain ⟨m', rfl, hst4⟩ := st_more_go hM.out hz hm
      obtain ⟨rfl, hlt⟩ := left_seen hz
      have hcx := HX.out W4 j4 0 d hl4.start hd h0
      have hrow : ∀ k, (Value.slice A3 xs.length c3).ownBlock = some k → k < W4.heap.size := fun k hk => (hO4.row hk).2
      have HCX2 := Lib.hid hcx; have HO4 := Lib.hid hO4; have HL4 := Lib.hid hl4'; have HROW := Lib.hid hrow; have HST4 := Lib.hid hst4; have HG := Lib.hid hG
      clear hcx hO4 hl4' hrow hst4 hG
      clear hl4 hO3 hLk HTK hM hz
      go_wp2_with fail
      refine HCX2.out.mono ?_
      rintro en W5 ⟨y, v, j5, e5, rfl, ⟨cs, rfl, hY⟩, hst5, hl5⟩
      have hs5 := left_short (short_expr f) hst5
      have hst6 := HST4.out.then_ hst5
      have hO5 := HO4.out.read ExR.stays hl5.grew hbl HG.out
      have hl5' := HL4.out.trans hl5
      have h45 := hl5.size
      obtain ⟨A5, c5, rfl⟩ := ExR.form hY
      have hw4 := HL4.out.size
      have HST6 := Lib.hid hst6; have HYR := Lib.hid hY; have HO5 := Lib.hid hO5; have HL5 := Lib.hid hl5'
      clear hst6 hY hO5 hl5'
      clear hl5 hst5 HL4 HO4 HST4
      go_wp2_with (at_builtin; go_must ((refine wpList_push ExR.stays (.agg #[.int .i64 0, .int .i64 0, .string ⟨#[]⟩, .string ⟨#[]⟩, .slice none 0 0]) [.int .i64 y.kind, .int .i64 y.n, .string y.of_, .string y.s, .slice A5 y.args.length c5] y rfl rfl Tryz.underlying79 (bytes := 72) (by kernel_rfl) HO5.out rfl rfl (by decide) rfl rfl HYR.out (rex_cells HYR.out) (fun k hk => ⟨hk.2, fun e => by have := HROW.out k e.symm; have := hk.1; omega⟩) (by unfold maxLen; omega) (by omega) (by omega) ?_); (intro A6 c6 W7 hO6 hgr _; have HL6 := Lib.hid (HL5.out.then_ hgr hbl); have HO6 := Lib.hid hO6; clear hO6 hgr)))
      go_roundg (left T j5 e5)
      case measure => omega
      case rel =>
        exact ⟨m', c6, A6, xs ++ [y], j5, e5, (fun k => G k ∨ fresh W4.heap.size W5.heap.size k), by simp, Nat.le_refl _, by omega, by rw [List.length_append, List.length_singleton]; omega, aside HST6.out, aside HL6.out, aside (by simpa using HO6.out), aside (fun k hk => hk.elim (HG.out k) (fun h => by have := h.1; omega))⟩
    | false =>
      obtain ⟨rfl, hst4⟩ := st_more_stop hM.out hz
      have hms := wants_any hl4.start s
      have HMS := Lib.hid hms; have HL4 := Lib.hid hl4'; have HO4 := Lib.hid hO4; have HST4 := Lib.hid hst4
      clear hms hl4' hO4 hst4
      clear hl4 hO3 hLk HTK hz hM
      go_wp2_with fail
      refine HMS.out.mono ?_
      rintro en W5 ⟨_, _, j5, e5, rfl, rfl, hst5, hl5⟩
      have hst6 : St R (prPure xs) T j5 e5 := HST4.out.then_ hst5
      have hO5 := HO4.out.read ExR.stays hl5.grew hbl hG.out
      have hl5' := HL4.out.trans hl5
      have HST6 := Lib.hid hst6; have HO5 := Lib.hid hO5; have HL5 := Lib.hid hl5'
      clear hst6 hO5 hl5'
      clear hl5 hst5
      go_wp2_with fail
      go_ret
      exact ⟨xs, _, j5, e5, rfl, HO5.out.slice ExR.stays (fun k hk => ⟨hG.out k hk, (HO5.out.foot hk).1⟩) (fun k h1 h2 => ⟨h1, h2⟩) (by omega) (by omega), HST6.out, HL5.out⟩

end Go.Proofs.YtjaladhdnbhliaaGreatDoor

/- The reference's reader of tokens: a type, (*eye).kind. -/
namespace Go.Proofs.YtjaladhdnbhliaaGreatDoor
open Go.RowKit Go.Shelf

/-- The reader, the result's box and the box of what is made. -/
structure Dish (b : Nat) (F : Foot) (A : Option Addr) (c : Nat) (T : List Token) (W : World) (rt : TypeId) (rc : Array Value) (n : Nat) (cs : Array Value) (W' : World) (i : Nat) (e d : Int) : Prop where
  sight : Sight b F A c T W W' i e d
  res : Box W' W.heap.size rt rc
  out : Box W' n rt cs
  lt : b < W.heap.size
  le : W.heap.size < n

section
variable {b : Nat} {F : Foot} {A : Option Addr} {c : Nat} {T : List Token} {w W W' W2 : World} {i i' : Nat} {e e' d d' : Int} {rt : TypeId} {rc cs : Array Value} {n : Nat}
theorem Dish.go (h : Dish b F A c T W rt rc n cs W' i e d) (k : Sight b F A c T W' W2 i' e' d') : Dish b F A c T W rt rc n cs W2 i' e' d' :=
  ⟨h.sight.trans k, k.grew.box_ h.res (fun e => by have := h.lt; omega), k.grew.box_ h.out (fun e => by have := h.lt; have := h.le; omega), h.lt, h.le⟩
theorem Dish.below (h : Dish b F A c T W rt rc n cs W' i e d) (hb : Below W'.heap.size W' W2) : Dish b F A c T W rt rc n cs W2 i e d :=
  ⟨h.sight.below hb, h.res.later hb h.res.lt, h.out.later hb h.out.lt, h.lt, h.le⟩
theorem Dish.set (h : Dish b F A c T W rt rc n cs W' i e d) (j : Nat) (u : Value) : Dish b F A c T W rt rc n (cs.setIfInBounds j u) (W'.setCell ⟨n, j, none⟩ u) i e d :=
  ⟨h.sight.set (p := ⟨n, j, none⟩) (Nat.le_of_lt h.le) h.lt u, h.res.far (p := ⟨n, j, none⟩) (fun e => Nat.ne_of_lt h.le (by first | exact e | exact e.symm)) u, h.out.put j u, h.lt, h.le⟩
theorem Dish.start (h : Dish b F A c T W rt rc n cs W' i e d) : Sight b F A c T W' W' i e d := h.sight.start
theorem Dish.ne (h : Dish b F A c T W rt rc n cs W' i e d) : n ≠ W.heap.size ∧ n ≠ b ∧ W.heap.size ≠ b := ⟨by have := h.le; omega, by have := h.le; have := h.lt; omega, by have := h.lt; omega⟩
end

/-- A type is made, so far. -/
def KindHas (b : Nat) (F : Foot) (A : Option Addr) (c : Nat) (T : List Token) (W : World) (R : Except Int (Ty × List Token)) (n : Nat) (d : Int) (w' : World) : Prop :=
  ∃ x i' e' c0 c1 c2 c3, Dish b F A c T W 75 #[.int .i64 0, .string ⟨#[]⟩, .string ⟨#[]⟩, .slice none 0 0] n #[c0, c1, c2, c3] w' i' e' d ∧ TyR w' (fresh (n + 1) w'.heap.size) [c0, c1, c2, c3] x ∧ St R (prPure x) T i' e'

set_option maxRecDepth 100000 in
set_option maxHeartbeats 4000000 in
theorem ekind_step {b : Nat} {F : Foot} {A : Option Addr} {c : Nat} {T : List Token} {W : World} {i f : Nat} {e d : Int} (h : Sight b F A c T W W i e d) (hd : d + f = 40) (h0 : 0 ≤ d)
    (ih : ∀ f', f = f' + 1 → ∀ U j k, Sight b F A c T U U j k (d + 1) → Calls Tryz.prog 144 #[.pointer (some ⟨b, 0, none⟩)] U (GaveEye (AggV TyR) b F A c T U (prKind f') j k (d + 1))) :
    Calls Tryz.prog 144 #[.pointer (some ⟨b, 0, none⟩)] W (GaveEye (AggV TyR) b F A c T W (prKind f) i e d) := by
  obtain ⟨e1, hdn, hst, he1⟩ : ∃ e1, (∀ U, Below W.heap.size W U → Calls Tryz.prog 208 #[.pointer (some ⟨b, 0, none⟩)] U fun en w' => en = .returned (.tuple #[]) ∧ Sight b F A c T U w' i e1 (d + 1)) ∧ St (Rs (prKind f) T i e) (prKind f) T i e1 ∧ (e1 = 0 → ∃ f', f = f' + 1) := by
    cases f with
    | zero =>
      obtain rfl : d = 40 := by omega
      refine ⟨badE e 1, fun U hU => down_deep (h.below hU).start, (St.start _).bad (fun _ => rfl) (by decide), fun h => ?_⟩
      unfold badE at h
      split at h
      · cases h
      · exact absurd h ‹_›
    | succ f => exact ⟨e, fun U hU => down_fine (h.below hU).start h0 (by omega), St.start _, fun _ => ⟨f, rfl⟩⟩
  obtain ⟨R, hR⟩ : ∃ R, Rs (prKind f) T i e = R := ⟨_, rfl⟩
  unfold GaveEye
  rw [hR] at hst ⊢
  have hbl := h.lt
  have HDN := Lib.hid hdn; have HST := Lib.hid hst; have IH := Lib.hid ih; have HH := Lib.hid h; have HE1 := Lib.hid he1
  clear hdn hst ih h he1
  clear hR
  go_enter Tryz.func144, Tryz.ntmps144
  go_upto_region 1 with fail
  have hBr := Box.made W 75 #[.int .i64 0, .string ⟨#[]⟩, .string ⟨#[]⟩, .slice none 0 0]
  have hbr : Below W.heap.size W (W.alloc (.cells #[.int .i64 0, .string ⟨#[]⟩, .string ⟨#[]⟩, .slice none 0 0] 75)) := by go_grown
  have hzr : (W.alloc (.cells #[.int .i64 0, .string ⟨#[]⟩, .string ⟨#[]⟩, .slice none 0 0] 75)).heap.size = W.heap.size + 1 := by simp
  generalize W.alloc (.cells #[.int .i64 0, .string ⟨#[]⟩, .string ⟨#[]⟩, .slice none 0 0] 75) = W1 at hBr hbr hzr ⊢
  have hs1 := HH.out.below hbr
  have hlr := hBr.lt
  have Hb := Lib.hid hbr; have HBr := Lib.hid hBr; have HS1 := Lib.hid hs1
  clear hbr hBr hs1
  clear hzr
  go_wp2_with fail
  refine (HDN.out _ Hb.out).mono ?_
  rintro en W2 ⟨rfl, hl⟩
  have hs2 := HS1.out.trans hl
  have hB2 := hl.grew.box_ HBr.out (by omega)
  have hw12 := hl.grew.size
  clear hl HBr HS1 Hb
  go_upto_region 3 with fail
  have hBo := Box.made W2 75 #[.int .i64 0, .string ⟨#[]⟩, .string ⟨#[]⟩, .slice none 0 0]
  have hbo : Below W2.heap.size W2 (W2.alloc (.cells #[.int .i64 0, .string ⟨#[]⟩, .string ⟨#[]⟩, .slice none 0 0] 75)) := by go_grown
  have hzo : (W2.alloc (.cells #[.int .i64 0, .string ⟨#[]⟩, .string ⟨#[]⟩, .slice none 0 0] 75)).heap.size = W2.heap.size + 1 := by simp
  generalize W2.alloc (.cells #[.int .i64 0, .string ⟨#[]⟩, .string ⟨#[]⟩, .slice none 0 0] 75) = W3 at hBo hbo hzo ⊢
  obtain ⟨n, hn⟩ : ∃ n, W2.heap.size = n := ⟨_, rfl⟩
  have hdi : Dish b F A c T W 75 #[.int .i64 0, .string ⟨#[]⟩, .string ⟨#[]⟩, .slice none 0 0] W2.heap.size #[.int .i64 0, .string ⟨#[]⟩, .string ⟨#[]⟩, .slice none 0 0] W3 i e1 (d + 1) :=
    ⟨hs2.below hbo, hB2.later hbo hB2.lt, hBo, hbl, by omega⟩
  rw [hn] at hdi ⊢
  clear hs2 hB2 hBo hbo hzo hn hw12 hlr W1 W2
  have hB := hdi.sight.box
  have x2 := hB.at_ 2 _ rfl
  have HD := Lib.hid hdi
  clear hdi
  clear hB
  go_upto_if 12 with (fail)
  go_cut [] (fun wc => KindHas b F A c T W R n (d + 1) wc)
  case first =>
    by_cases hz : e1 = 0
    · obtain ⟨f', rfl⟩ := HE1.out hz
      subst hz
      have hsee := sees_any HD.out.start sLb
      have hst : St R (prIf sLb (prThen (prKind f') fun t => prThen (prMust sRb) fun _ => prPure (.mk 3 mt mt [t])) prWord) T i 0 := HST.out
      have HSEE := Lib.hid hsee; have HS := Lib.hid hst
      clear hsee hst
      clear HDN HST HE1
      go_wp2_with fail
      refine HSEE.out.mono ?_
      rintro en W4 ⟨z, i', rfl, hz, hl⟩
      have hd4 := HD.out.go hl
      clear hl
      cases z with
      | true =>
        have hst := HS.out.yes hz
        have hB := hd4.out
        have y0 := hB.at_ 0 _ rfl
        have g0 := hB.free 0
        have HD4 := Lib.hid hd4; have HST := Lib.hid hst
        clear hd4 hst
        clear hB HSEE hz
        go_upto_region 6 with fail
        obtain ⟨W5, hW5⟩ : ∃ X, X = W4.setCell ⟨n, 0, none⟩ (.int .i64 3) := ⟨_, rfl⟩
        have hd5 : Dish b F A c T W 75 #[.int .i64 0, .string ⟨#[]⟩, .string ⟨#[]⟩, .slice none 0 0] n #[.int .i64 3, .string ⟨#[]⟩, .string ⟨#[]⟩, .slice none 0 0] W5 i' 0 (d + 1) := by rw [hW5]; exact HD4.out.set 0 _
        rw [← hW5]
        have hk := IH.out f' rfl _ _ _ hd5.start
        have HD5 := Lib.hid hd5; have HK := Lib.hid hk
        clear hd5 hk
        clear hW5 g0 y0 HD4
        go_wp2_with fail
        refine HK.out.mono ?_
        rintro en W6 ⟨x, v, i2, e2, rfl, ⟨cs, rfl, hX⟩, hst2, hl2⟩
        have hd6 := HD5.out.go hl2
        have hst3 : St R (prThen (prMust sRb) fun _ => prPure (.mk 3 mt mt [x])) T i2 e2 := HST.out.then_ hst2
        obtain ⟨A2, c2, rfl⟩ := TyR.form hX
        have hg := fun o => (hd6.out.later ((Below.refl _ _).alloc (Nat.le_refl _) o) hd6.out.lt).free 3
        have hy := fun o => (hd6.out.later ((Below.refl _ _).alloc (Nat.le_refl _) o) hd6.out.lt).at_ 3 _ rfl
        have h56 := hl2.grew.size
        have h05 := HD5.out.sight.size
        have HD6 := Lib.hid hd6; have HX := Lib.hid hX; have HS3 := Lib.hid hst3
        clear hd6 hX hst3
        clear hl2 hst2
        go_upto_region 7 with fail
        have hBv := Box.made W6 75 #[.int .i64 x.kind, .string x.of_, .string x.name, .slice A2 x.args.length c2]
        have hbv : Below W6.heap.size W6 (W6.alloc (.cells #[.int .i64 x.kind, .string x.of_, .string x.name, .slice A2 x.args.length c2] 75)) := by go_grown
        have hzv : (W6.alloc (.cells #[.int .i64 x.kind, .string x.of_, .string x.name, .slice A2 x.args.length c2] 75)).heap.size = W6.heap.size + 1 := by simp
        generalize W6.alloc (.cells #[.int .i64 x.kind, .string x.of_, .string x.name, .slice A2 x.args.length c2] 75) = W7 at hBv hbv hzv ⊢
        have hd7 := (HD6.out.below hbv).set 3 (.slice (some ⟨W6.heap.size, 0, none⟩) 1 1)
        have hn5 := HD5.out.out.lt
        have hX7 : TyR W7 (fresh (n + 1) W7.heap.size) _ x := TyR.stays.wider (TyR.stays.later HX.out hbv fresh_lt) (fresh_up hn5 hbv.size)
        have hT7 : TyR W7 (fresh (n + 1) W7.heap.size) [.int .i64 3, .string mt, .string mt, .slice (some ⟨W6.heap.size, 0, none⟩) 1 1] (.mk 3 mt mt [x]) := rty_list hBv hX7 ⟨by omega, hBv.lt⟩
        obtain ⟨W8, hW8⟩ : ∃ X, X = W7.setCell ⟨n, 3, none⟩ (.slice (some ⟨W6.heap.size, 0, none⟩) 1 1) := ⟨_, rfl⟩
        have hT8 : TyR W8 (fresh (n + 1) W7.heap.size) [.int .i64 3, .string mt, .string mt, .slice (some ⟨W6.heap.size, 0, none⟩) 1 1] (.mk 3 mt mt [x]) := by
          rw [hW8]
          exact TyR.stays _ _ _ _ _ _ hT7 (fun _ h => h) ((Keeps.refl _ _).setCell (fun hb => by have h1 : n + 1 ≤ n := hb.1; omega) _)
        have hd8 : Dish b F A c T W 75 #[.int .i64 0, .string ⟨#[]⟩, .string ⟨#[]⟩, .slice none 0 0] n #[.int .i64 3, .string ⟨#[]⟩, .string ⟨#[]⟩, .slice (some ⟨W6.heap.size, 0, none⟩) 1 1] W8 i2 e2 (d + 1) := by rw [hW8]; exact hd7
        have hs8 : W8.heap.size = W7.heap.size := by rw [hW8]; exact size_set _ _ _
        rw [← hW8]
        have hwa := wants_any hd8.start sRb
        have HWA := Lib.hid hwa; have HD8 := Lib.hid hd8; have HT8 := Lib.hid hT8
        clear hwa hd8 hT8
        clear hW8 hX7 hT7 hd7 hbv hBv HX HD6 hg hy
        go_wp2_with fail
        refine HWA.out.mono ?_
        rintro en W9 ⟨_, _, i3, e3, rfl, rfl, hst4, hl4⟩
        have hd9 := HD8.out.go hl4
        have hsz9 := hl4.grew.size
        have hT9 := TyR.stays _ _ _ _ _ _ HT8.out (fun _ h => h) (hl4.grew.keeps (n := n + 1) (m := W7.heap.size) (by have := HD8.out.lt; have := HD8.out.le; omega) (by omega))
        have hst5 : St R (prPure (Ty.mk 3 mt mt [x])) T i3 e3 := HS3.out.then_ hst4
        have HD9 := Lib.hid hd9; have HT9 := Lib.hid hT9; have HS5 := Lib.hid hst5
        clear hd9 hT9 hst5
        clear hl4 hst4
        go_wp2_with fail
        go_meet
        exact ⟨.mk 3 mt mt [x], i3, e3, _, _, _, _, HD9.out, TyR.stays.wider HT9.out (fresh_up (Nat.le_refl _) (by omega)), HS5.out⟩
      | false =>
        obtain ⟨rfl, hst⟩ := HS.out.no hz
        have hn8 := one_any hd4.start (hd4.sight.lt)
        have HD4 := Lib.hid hd4; have HST := Lib.hid hst; have HN8 := Lib.hid hn8
        clear hd4 hst hn8
        clear HSEE HS hz
        go_wp2_with fail
        refine HN8.out.mono ?_
        rintro en W5 ⟨t, j, rfl, hN, hk, htx, hl⟩
        have hd5 := HD4.out.go hl
        obtain ⟨kd, tx⟩ := t
        dsimp only at *
        go_upto_region 9 with fail
        have hBt := Box.made W5 182 #[.int .i64 kd, .string tx]
        have hbt : Below W5.heap.size W5 (W5.alloc (.cells #[.int .i64 kd, .string tx] 182)) := by go_grown
        have hzt : (W5.alloc (.cells #[.int .i64 kd, .string tx] 182)).heap.size = W5.heap.size + 1 := by simp
        generalize W5.alloc (.cells #[.int .i64 kd, .string tx] 182) = W6 at hBt hbt hzt ⊢
        have hd6 := hd5.below hbt
        have hnb : W5.heap.size ≠ b := by have := hl.lt; omega
        have hnn : W5.heap.size ≠ n := by have := hd5.out.lt; omega
        have hid := fun U => nameMay_any tx U htx
        obtain ⟨z1, hz1⟩ : ∃ z, (nameOk tx) = z := ⟨_, rfl⟩
        rw [hz1] at hid
        have Z1 := Lib.hid hz1; clear hz1
        have hbad := ebad_any 4 hd6.start
        have hfail : prWord (T.drop i') = .error 4 → St R (prPure (Ty.mk 0 mt mt [])) T j (badE 0 4) := fun hp => HST.out.bad (fun _ => hp) (by decide)
        have hgood : ∀ x : Ty, (∀ L, prWord (⟨kd, tx⟩ :: L) = .ok (x, L)) → kd = 1 → St R (prPure x) T j 0 := fun x hp hk => HST.out.eq (fun _ => by
          rcases hN with ⟨_, h1, _⟩ | ⟨_, h1, _⟩
          · rw [h1]; exact hp _
          · injection h1 with h1 _; rw [h1] at hk; cases hk)
        have hB := hd6.out
        have x0 := hBt.at_ 0 _ rfl
        have x1 := hBt.at_ 1 _ rfl
        have y0 := hB.at_ 0 _ rfl
        have y1 := hB.at_ 1 _ rfl
        have y2 := hB.at_ 2 _ rfl
        have g0 := hB.free 0
        have g1 := hB.free 1
        have g2 := hB.free 2
        have HN := Lib.hid hN; have HTX := Lib.hid htx; have HD6 := Lib.hid hd6; have HID := Lib.hid hid; have HB6 := Lib.hid hBt; have HBAD := Lib.hid hbad; have HFAIL := Lib.hid hfail; have HGOOD := Lib.hid hgood
        clear hN htx hd6 hid hBt hbad hfail hgood
        clear hl hd5 hbt hzt hB
        cases hq1 : (kd == 1) with
        | false =>
          have hw : prWord (T.drop i') = .error 4 := by
            rcases HN.out with ⟨_, h, _⟩ | ⟨h, _⟩
            · rw [h, prWord_cons, if_pos (by simpa using hq1)]
            · rw [h rfl]; rfl
          have HW := Lib.hid hw
          clear hw
          go_wp2_with fail
          refine HBAD.out.mono ?_
          rintro en W7 ⟨rfl, hl⟩
          have HL := Lib.hid hl
          clear hl
          go_wp2_with fail
          go_meet
          exact ⟨.mk 0 mt mt [], j, _, _, _, _, _, HD6.out.go HL.out, rty_plain _ _ ⟨by decide, by decide⟩ mt_ok mt_ok, HFAIL.out HW.out⟩
        | true =>
          have hk1 : kd = 1 := by simpa using hq1
          cases hq2 : (tx.toList == [105, 110, 116]) with
          | true =>
            have hw := HGOOD.out (.mk 1 mt mt []) (fun L => by rw [prWord_cons, if_neg (by simp [hk1]), eqb_int, hq2, if_pos rfl]) hk1
            have HW := Lib.hid hw
            clear hw
            go_wp2_with fail
            go_meet
            exact ⟨.mk 1 mt mt [], j, _, _, _, _, _, HD6.out.set 0 _, rty_plain _ _ rty_I64.1 mt_ok mt_ok, HW.out⟩
          | false =>
            cases hq3 : (tx.toList == [116, 101, 120, 116]) with
            | true =>
              have hw := HGOOD.out (.mk 2 mt mt []) (fun L => by rw [prWord_cons, if_neg (by simp [hk1]), eqb_int, hq2, if_neg (by simp), eqb_text, hq3, if_pos rfl]) hk1
              have HW := Lib.hid hw
              clear hw
              go_wp2_with fail
              go_meet
              exact ⟨.mk 2 mt mt [], j, _, _, _, _, _, HD6.out.set 0 _, rty_plain _ _ rty_I64.2.1 mt_ok mt_ok, HW.out⟩
            | false =>
              cases z1 with
              | false =>
                have hw : prWord (T.drop i') = .error 4 := by
                  rcases HN.out with ⟨_, h, _⟩ | ⟨h, _⟩
                  · rw [h, prWord_cons, if_neg (by simp [hk1]), eqb_int, hq2, if_neg (by simp), eqb_text, hq3, if_neg (by simp), if_pos Z1.out]
                  · rw [h rfl]; rfl
                have HW := Lib.hid hw
                clear hw
                go_wp2_with (go_at_call 98; (with_reducible refine (HID.out _).mono ?_); rintro en w' ⟨rfl, rfl⟩)
                refine HBAD.out.mono ?_
                rintro en W7 ⟨rfl, hl⟩
                have HL := Lib.hid hl
                clear hl
                go_wp2_with fail
                go_meet
                exact ⟨.mk 0 mt mt [], j, _, _, _, _, _, HD6.out.go HL.out, rty_plain _ _ ⟨by decide, by decide⟩ mt_ok mt_ok, HFAIL.out HW.out⟩
              | true =>
                have hw : St R (prIf sDot (prThen prName fun m => prPure (.mk 4 tx m [])) (prPure (.mk 4 mt tx []))) T j 0 := HST.out.eq (fun _ => by
                  rcases HN.out with ⟨_, h, _⟩ | ⟨_, h, _⟩
                  · rw [h, prWord_cons, if_neg (by simp [hk1]), eqb_int, hq2, if_neg (by simp), eqb_text, hq3, if_neg (by simp), if_neg (by rw [Z1.out]; simp)]
                  · injection h with h _; rw [h] at hk1; cases hk1)
                have HW := Lib.hid hw
                clear hw
                go_upto_region 16 with (go_at_call 98; (with_reducible refine (HID.out _).mono ?_); rintro en w' ⟨rfl, rfl⟩)
                obtain ⟨W7, hW7⟩ : ∃ X, X = (W6.setCell ⟨n, 0, none⟩ (.int .i64 4)).setCell ⟨n, 2, none⟩ (.string tx) := ⟨_, rfl⟩
                have hd7 : Dish b F A c T W 75 #[.int .i64 0, .string ⟨#[]⟩, .string ⟨#[]⟩, .slice none 0 0] n #[.int .i64 4, .string ⟨#[]⟩, .string tx, .slice none 0 0] W7 j 0 (d + 1) := by rw [hW7]; exact (HD6.out.set 0 _).set 2 _
                have hB7 : Box W7 W5.heap.size 182 #[.int .i64 kd, .string tx] := by rw [hW7]; exact (HB6.out.far (p := ⟨n, 0, none⟩) hnn _).far (p := ⟨n, 2, none⟩) hnn _
                rw [← hW7]
                have hsee := sees_any hd7.start sDot
                have HD7 := Lib.hid hd7; have HB7 := Lib.hid hB7; have HSE2 := Lib.hid hsee
                clear hd7 hB7 hsee
                clear hW7 x0 x1 y0 y1 y2 g0 g1 g2 HD6 HB6
                go_wp2_with fail
                refine HSE2.out.mono ?_
                rintro en W8 ⟨z2, i2, rfl, hz2, hl2⟩
                have hd8 := HD7.out.go hl2
                have hB8 := hl2.grew.box_ HB7.out hnb
                cases z2 with
                | false =>
                  obtain ⟨rfl, hst2⟩ := HW.out.no hz2
                  have HD8 := Lib.hid hd8; have HS2 := Lib.hid hst2
                  clear hd8 hst2
                  clear hl2 hB8
                  go_wp2_with fail
                  go_meet
                  exact ⟨.mk 4 mt tx [], _, _, _, _, _, _, HD8.out, rty_plain _ _ rty_I64.2.2.2 mt_ok HTX.out, HS2.out⟩
                | true =>
                  have hst2 := HW.out.yes hz2
                  have hB := hd8.out
                  have x0 := hB8.at_ 0 _ rfl
                  have x1 := hB8.at_ 1 _ rfl
                  have y1 := hB.at_ 1 _ rfl
                  have g1 := hB.free 1
                  have HD8 := Lib.hid hd8; have HS2 := Lib.hid hst2; have HB8 := Lib.hid hB8
                  clear hd8 hst2 hB8
                  clear hl2 hB
                  go_upto_region 18 with fail
                  obtain ⟨W9, hW9⟩ : ∃ X, X = W8.setCell ⟨n, 1, none⟩ (.string tx) := ⟨_, rfl⟩
                  have hd9 : Dish b F A c T W 75 #[.int .i64 0, .string ⟨#[]⟩, .string ⟨#[]⟩, .slice none 0 0] n #[.int .i64 4, .string tx, .string tx, .slice none 0 0] W9 i2 0 (d + 1) := by rw [hW9]; exact HD8.out.set 1 _
                  rw [← hW9]
                  have hid := eident_any hd9.start
                  have HD9 := Lib.hid hd9; have HI := Lib.hid hid
                  clear hd9 hid
                  clear hW9 x0 x1 y1 g1 HD8 HB8 HB7
                  go_wp2_with fail
                  refine HI.out.mono ?_
                  rintro en W10 ⟨m, v, i3, e3, rfl, ⟨rfl, hm⟩, hst3, hl3⟩
                  have hd10 := HD9.out.go hl3
                  have hst4 : St R (prPure (Ty.mk 4 tx m [])) T i3 e3 := HS2.out.then_ hst3
                  have hB := hd10.out
                  have y2 := hB.at_ 2 _ rfl
                  have g2 := hB.free 2
                  have HD10 := Lib.hid hd10; have HM := Lib.hid hm; have HS4 := Lib.hid hst4
                  clear hd10 hm hst4
                  clear hl3 hst3 hB
                  go_wp2_with fail
                  go_meet
                  exact ⟨.mk 4 tx m [], _, _, _, _, _, _, HD10.out.set 2 _, rty_plain _ _ rty_I64.2.2.2 HTX.out HM.out, HS4.out⟩
    · have hez : (e1 == 0) = false := by simp [hz]
      have HZ := Lib.hid hz
      clear hz
      go_wp2_with fail
      go_meet
      exact ⟨.mk 0 mt mt [], i, e1, _, _, _, _, HD.out, rty_plain _ _ ⟨by decide, by decide⟩ mt_ok mt_ok, HST.out.stuck HZ.out⟩
  case rest =>
    obtain ⟨x, i', e', c0, c1, c2, c3, hdi, hX, hst⟩ := hcut
    obtain ⟨A2, cc, hcs⟩ := TyR.form hX
    obtain ⟨rfl, rfl, rfl, rfl⟩ : c0 = .int .i64 x.kind ∧ c1 = .string x.of_ ∧ c2 = .string x.name ∧ c3 = .slice A2 x.args.length cc := by simpa using hcs
    clear hcs
    have hB := hdi.sight.box
    have hws := hdi.sight.size
    have hle := hdi.sight.le
    have x3 := hB.at_ 3 _ rfl
    have g3 := hB.free 3
    have hz : d + 1 - 1 = d := by omega
    obtain ⟨w9, rfl⟩ : ∃ X, X = wc := ⟨_, rfl⟩
    have HD9 := Lib.hid hdi; have HX := Lib.hid hX; have HST9 := Lib.hid hst
    clear hdi hX hst
    clear hB
    go_upto_region 21 with fail
    obtain ⟨w10, hw10⟩ : ∃ X, X = w9.setCell ⟨b, 3, none⟩ (.int .i64 d) := ⟨_, rfl⟩
    have hr := HD9.out.res.far (p := ⟨b, 3, none⟩) HD9.out.ne.2.2 (.int .i64 d)
    have ho := HD9.out.out.far (p := ⟨b, 3, none⟩) HD9.out.ne.2.1 (.int .i64 d)
    have hs := HD9.out.sight.put (e' := e') (d' := d) (i' := i') 3 (.int .i64 d) hle (by simp)
    have hX10 : TyR w10 (fresh (n + 1) w9.heap.size) [.int .i64 x.kind, .string x.of_, .string x.name, .slice A2 x.args.length cc] x := by
      rw [hw10]
      exact TyR.stays _ _ _ _ _ _ HX.out (fun _ h => h) ((Keeps.refl _ _).setCell (fun hb => by have h1 : n + 1 ≤ b := hb.1; have := HD9.out.lt; have := HD9.out.le; omega) _)
    rw [← hw10] at hr ho hs ⊢
    have hsz : w10.heap.size = w9.heap.size := by rw [hw10]; exact size_set _ _ _
    have hlen := HD9.out.le
    clear hw10 x3 g3 hz HX HD9
    have r0 := hr.at_ 0 _ rfl
    have r1 := hr.at_ 1 _ rfl
    have r2 := hr.at_ 2 _ rfl
    have r3 := hr.at_ 3 _ rfl
    have q0 := hr.free 0
    have q1 := hr.free 1
    have q2 := hr.free 2
    have q3 := hr.free 3
    have y0 := ho.at_ 0 _ rfl
    have y1 := ho.at_ 1 _ rfl
    have y2 := ho.at_ 2 _ rfl
    have y3 := ho.at_ 3 _ rfl
    have HS := Lib.hid hs; have HX := Lib.hid hX10
    clear hs hX10
    clear hr ho
    go_wp2_with fail
    refine bodyPost_ret (v := .agg #[.int .i64 x.kind, .string x.of_, .string x.name, .slice A2 x.args.length cc]) (by simp [results, Tryz.results144, go_sem, r0, r1, r2, r3]) rfl ?_
    have hbl : b < W.heap.size := hbl
    refine ⟨x, _, i', e', rfl, ⟨_, rfl, ?_⟩, HST9.out, (((HS.out.set (p := ⟨W.heap.size, 0, none⟩) (Nat.le_refl _) hbl _).set (p := ⟨W.heap.size, 1, none⟩) (Nat.le_refl _) hbl _).set (p := ⟨W.heap.size, 2, none⟩) (Nat.le_refl _) hbl _).set (p := ⟨W.heap.size, 3, none⟩) (Nat.le_refl _) hbl _⟩
    have hno : ¬ fresh (n + 1) w9.heap.size W.heap.size := fun h => by have := h.1; omega
    refine TyR.stays _ _ _ _ _ _ HX.out ?_ (((((Keeps.refl _ _).setCell (fun h => hno h) _).setCell (fun h => hno h) _).setCell (fun h => hno h) _).setCell (fun h => hno h) _)
    simp only [size_set]
    exact fresh_up (by omega) (by omega)

theorem ekind_any {b : Nat} {F : Foot} {A : Option Addr} {c : Nat} {T : List Token} : ∀ (f : Nat) (W : World) (i : Nat) (e d : Int), Sight b F A c T W W i e d → d + f = 40 → 0 ≤ d →
    Calls Tryz.prog 144 #[.pointer (some ⟨b, 0, none⟩)] W (GaveEye (AggV TyR) b F A c T W (prKind f) i e d) := by
  intro f
  induction f with
  | zero => exact fun W i e d h hd h0 => ekind_step h hd h0 (fun f' h => by cases h)
  | succ f ih => exact fun W i e d h hd h0 => ekind_step h hd h0 (fun f' hf U j k hU => by cases hf; exact ih U j k (d + 1) hU (by omega) (by omega))

end Go.Proofs.YtjaladhdnbhliaaGreatDoor

/- The reference's reader of tokens: the head of an expression, (*eye).head. -/
namespace Go.Proofs.YtjaladhdnbhliaaGreatDoor
open Go.RowKit Go.Shelf

section
variable {b : Nat} {F : Foot} {A : Option Addr} {c : Nat} {T : List Token} {W W' : World} {i : Nat} {e d : Int}
theorem Sight.res5 (h : Sight b F A c T W W' i e d) (hb : b < W.heap.size) (u0 u1 u2 u3 u4 : Value) :
    Sight b F A c T W (((((W'.setCell ⟨W.heap.size, 0, none⟩ u0).setCell ⟨W.heap.size, 1, none⟩ u1).setCell ⟨W.heap.size, 2, none⟩ u2).setCell ⟨W.heap.size, 3, none⟩ u3).setCell ⟨W.heap.size, 4, none⟩ u4) i e d :=
  ((((h.set (p := ⟨W.heap.size, 0, none⟩) (Nat.le_refl _) hb u0).set (p := ⟨W.heap.size, 1, none⟩) (Nat.le_refl _) hb u1).set (p := ⟨W.heap.size, 2, none⟩) (Nat.le_refl _) hb u2).set (p := ⟨W.heap.size, 3, none⟩) (Nat.le_refl _) hb u3).set (p := ⟨W.heap.size, 4, none⟩) (Nat.le_refl _) hb u4
theorem ex_res5 {G : Foot} {cs : List Value} {x : Ex} (hX : ExR W' G cs x) (hG : ∀ k, G k → W.heap.size < k ∧ k < W'.heap.size) (u0 u1 u2 u3 u4 : Value) :
    ExR (((((W'.setCell ⟨W.heap.size, 0, none⟩ u0).setCell ⟨W.heap.size, 1, none⟩ u1).setCell ⟨W.heap.size, 2, none⟩ u2).setCell ⟨W.heap.size, 3, none⟩ u3).setCell ⟨W.heap.size, 4, none⟩ u4)
      (fresh W.heap.size (((((W'.setCell ⟨W.heap.size, 0, none⟩ u0).setCell ⟨W.heap.size, 1, none⟩ u1).setCell ⟨W.heap.size, 2, none⟩ u2).setCell ⟨W.heap.size, 3, none⟩ u3).setCell ⟨W.heap.size, 4, none⟩ u4).heap.size) cs x := by
  have hno : ¬ G W.heap.size := fun h => Nat.lt_irrefl _ (hG _ h).1
  refine ExR.stays _ _ _ _ _ _ hX ?_ ((((((Keeps.refl _ _).setCell (fun h => hno h) _).setCell (fun h => hno h) _).setCell (fun h => hno h) _).setCell (fun h => hno h) _).setCell (fun h => hno h) _)
  simp only [size_set]
  exact fun k hk => ⟨Nat.le_of_lt (hG k hk).1, (hG k hk).2⟩
/-- An expression without arguments. -/
theorem rex_plain (w : World) {k n : Int} {o s : ByteArray} (hk : I64 k) (hn : I64 n) (ho : okS o) (hs : okS s) : ExR w none_ [.int .i64 k, .int .i64 n, .string o, .string s, .slice none 0 0] (.mk k n o s []) := rex_args hk hn ho hs SliceOf.nil_
end
/-- The digits of a number, one by one. -/
theorem num_steps {s : ByteArray} (h : numOk s = true) : s.size ≤ 6 ∧ ∀ k (hk : k < s.size), 48 ≤ s[k].toNat ∧ s[k].toNat ≤ 57 ∧ spell 0 (s.data.toList.take (k + 1)) = spell 0 (s.data.toList.take k) * 10 + (s[k].toNat - 48) ∧ spell 0 (s.data.toList.take k) ≤ 999999 := by
  unfold numOk at h
  rw [Bool.and_eq_true, decide_eq_true_eq] at h
  have hd := (numL_digits h.2).1
  refine ⟨h.1, fun k hk => ?_⟩
  have hx := str_at? s k hk
  have h1 := List.all_eq_true.1 hd _ (List.mem_of_getElem? hx)
  have h2 := digitB_iff.1 h1
  refine ⟨h2.1, h2.2, ?_, ?_⟩
  · rw [List.take_add_one, hx, Option.toList_some, spell_snoc]
  · have h3 := spell_lt (s.data.toList.take k) 0 (List.all_eq_true.2 fun x hm => List.all_eq_true.1 hd x (List.mem_of_mem_take hm))
    have h4 : 10 ^ (s.data.toList.take k).length ≤ 10 ^ 6 := Nat.pow_le_pow_right (by decide) (by rw [List.length_take]; omega)
    have h5 : (10 : Nat) ^ 6 = 1000000 := by decide
    omega

set_option maxRecDepth 100000 in
set_option maxHeartbeats 8000000 in
theorem ehead_any {b : Nat} {F : Foot} {A : Option Addr} {c : Nat} {T : List Token} {f : Nat} (hx : EyeGives b F A c T f) (W : World) (i : Nat) (d : Int) (h : Sight b F A c T W W i 0 d) (hd : d + f = 40) (h0 : 0 ≤ d) :
    Calls Tryz.prog 269 #[.pointer (some ⟨b, 0, none⟩)] W (GaveEye (AggV ExR) b F A c T W (prAtom (prExpr f)) i 0 d) := by
  have hst : St (Rs (prAtom (prExpr f)) T i 0) (prAtom (prExpr f)) T i 0 := St.start _
  obtain ⟨R, hR⟩ : ∃ R, Rs (prAtom (prExpr f)) T i 0 = R := ⟨_, rfl⟩
  unfold GaveEye
  rw [hR] at hst ⊢
  have hbl := h.lt
  have h200 := h.len
  have hal := fun U i e s h => eall_any hx U i e d s h hd h0
  have HX := Lib.hid hx; have HH := Lib.hid h; have HST := Lib.hid hst; have HAL := Lib.hid hal
  clear hx h hst hal
  clear hR
  go_enter Tryz.func269, Tryz.ntmps269
  go_upto_region 1 with fail
  have hBr := Box.made W 81 #[.int .i64 0, .int .i64 0, .string ⟨#[]⟩, .string ⟨#[]⟩, .slice none 0 0]
  have hbr : Below W.heap.size W (W.alloc (.cells #[.int .i64 0, .int .i64 0, .string ⟨#[]⟩, .string ⟨#[]⟩, .slice none 0 0] 81)) := by go_grown
  have hzr : (W.alloc (.cells #[.int .i64 0, .int .i64 0, .string ⟨#[]⟩, .string ⟨#[]⟩, .slice none 0 0] 81)).heap.size = W.heap.size + 1 := by simp
  generalize W.alloc (.cells #[.int .i64 0, .int .i64 0, .string ⟨#[]⟩, .string ⟨#[]⟩, .slice none 0 0] 81) = W1 at hBr hbr hzr ⊢
  have hl1 := HH.out.below hbr
  have hrl := hBr.lt
  have hsee := sees_any hl1.start sLp
  have HL1 := Lib.hid hl1; have HB1 := Lib.hid hBr; have HSEE := Lib.hid hsee
  clear hl1 hBr hsee
  clear hzr hbr
  go_wp2_with fail
  refine HSEE.out.mono ?_
  rintro en W2 ⟨z, i2, rfl, hz, hl2⟩
  have hl2' := HL1.out.trans hl2
  have hb2 := hl2.grew.box_ HB1.out (by omega)
  have hw2 := hl2.size
  cases z with
  | true =>
    have hst2 := HST.out.yes hz
    have hcx := HX.out W2 i2 0 d hl2'.start hd h0
    have HS2 := Lib.hid hst2; have HL2 := Lib.hid hl2'; have HB2 := Lib.hid hb2; have HCX := Lib.hid hcx
    clear hst2 hl2' hb2 hcx
    clear hl2 HSEE HST HB1 hz HAL
    go_wp2_with fail
    refine HCX.out.mono ?_
    rintro en W3 ⟨x, v, i3, e3, rfl, ⟨cs, rfl, hX⟩, hst3, hl3⟩
    have hl3' := HL2.out.trans hl3
    have hb3 := hl3.grew.box_ HB2.out (by omega)
    have hw3 := hl3.size
    have hst4 : St R (prThen (prMust sRp) fun _ => prPure x) T i3 e3 := HS2.out.then_ hst3
    obtain ⟨A3, c3, rfl⟩ := ExR.form hX
    have HS4 := Lib.hid hst4; have HL3 := Lib.hid hl3'; have HB3 := Lib.hid hb3; have HXR := Lib.hid hX
    clear hst4 hl3' hb3 hX
    clear hl3 hst3 HCX HB2 HL2
    go_upto_region 3 with fail
    have hBo := Box.made W3 81 #[.int .i64 x.kind, .int .i64 x.n, .string x.of_, .string x.s, .slice A3 x.args.length c3]
    have hbo : Below W3.heap.size W3 (W3.alloc (.cells #[.int .i64 x.kind, .int .i64 x.n, .string x.of_, .string x.s, .slice A3 x.args.length c3] 81)) := by go_grown
    have hzo : (W3.alloc (.cells #[.int .i64 x.kind, .int .i64 x.n, .string x.of_, .string x.s, .slice A3 x.args.length c3] 81)).heap.size = W3.heap.size + 1 := by simp
    generalize W3.alloc (.cells #[.int .i64 x.kind, .int .i64 x.n, .string x.of_, .string x.s, .slice A3 x.args.length c3] 81) = W4 at hBo hbo hzo ⊢
    have hd4 : Dish b F A c T W 81 #[.int .i64 0, .int .i64 0, .string ⟨#[]⟩, .string ⟨#[]⟩, .slice none 0 0] W3.heap.size _ W4 i3 e3 d := ⟨HL3.out.below hbo, HB3.out.later hbo HB3.out.lt, hBo, hbl, by omega⟩
    have hX4 := ExR.stays.later HXR.out hbo fresh_lt
    have hw4 := hbo.size
    have hms := wants_any hd4.start sRp
    have HD4 := Lib.hid hd4; have HX4 := Lib.hid hX4; have HMS := Lib.hid hms
    clear hd4 hX4 hms
    clear hBo hbo hzo HB3 HL3 HXR
    go_wp2_with fail
    refine HMS.out.mono ?_
    rintro en W5 ⟨_, _, i5, e5, rfl, rfl, hst5, hl5⟩
    have hd5 := HD4.out.go hl5
    have hw5 := hl5.size
    have hX5 := ExR.stays _ _ _ _ _ _ HX4.out (fun _ h => h) (hl5.grew.keeps (n := W2.heap.size) (m := W3.heap.size) (by omega) hw4)
    have hst6 : St R (prPure x) T i5 e5 := HS4.out.then_ hst5
    have hr5 := hd5.res
    have ho5 := hd5.out
    have r0 := hr5.at_ 0 _ rfl
    have r1 := hr5.at_ 1 _ rfl
    have r2 := hr5.at_ 2 _ rfl
    have r3 := hr5.at_ 3 _ rfl
    have r4 := hr5.at_ 4 _ rfl
    have g0 := hr5.free 0
    have g1 := hr5.free 1
    have g2 := hr5.free 2
    have g3 := hr5.free 3
    have g4 := hr5.free 4
    have x0 := ho5.at_ 0 _ rfl
    have x1 := ho5.at_ 1 _ rfl
    have x2 := ho5.at_ 2 _ rfl
    have x3 := ho5.at_ 3 _ rfl
    have x4 := ho5.at_ 4 _ rfl
    have HD5 := Lib.hid hd5; have HX5 := Lib.hid hX5; have HS6 := Lib.hid hst6
    clear hd5 hX5 hst6
    clear hl5 hst5 hr5 ho5 HMS HD4 HX4
    go_wp2_with fail
    refine bodyPost_ret (v := .agg #[.int .i64 x.kind, .int .i64 x.n, .string x.of_, .string x.s, .slice A3 x.args.length c3]) (by simp [results, Tryz.results269, go_sem, r0, r1, r2, r3, r4]) rfl ?_
    exact ⟨x, _, i5, e5, rfl, ⟨_, rfl, ex_res5 HX5.out (fun k hk => ⟨by have := hk.1; omega, by have := hk.2; omega⟩) _ _ _ _ _⟩, HS6.out, HD5.out.sight.res5 hbl _ _ _ _ _⟩
  | false =>
    obtain ⟨rfl, hst2⟩ := HST.out.no hz
    have hsee := sees_any hl2'.start sLb
    have HS2 := Lib.hid hst2; have HL2 := Lib.hid hl2'; have HB2 := Lib.hid hb2; have HSE2 := Lib.hid hsee
    clear hst2 hl2' hb2 hsee
    clear hl2 HSEE HST HB1 hz
    go_wp2_with fail
    refine HSE2.out.mono ?_
    rintro en W3 ⟨z, i3, rfl, hz, hl3⟩
    have hl3' := HL2.out.trans hl3
    have hb3 := hl3.grew.box_ HB2.out (by omega)
    have hw3 := hl3.size
    cases z with
    | true =>
      have hst3 := HS2.out.yes hz
      have hca := HAL.out W3 i3 0 sRb hl3'.start
      have HS3 := Lib.hid hst3; have HL3 := Lib.hid hl3'; have HB3 := Lib.hid hb3; have HCA := Lib.hid hca
      clear hst3 hl3' hb3 hca
      clear hl3 HSE2 HS2 HB2 hz HAL HL2
      go_wp2_with fail
      refine HCA.out.mono ?_
      rintro en W4 ⟨xs, v, i4, e4, rfl, hV, hst4, hl4⟩
      obtain ⟨A4, c4, rfl, -⟩ := SliceOf.form hV
      have hl4' := HL3.out.trans hl4
      have hb4 := hl4.grew.box_ HB3.out (by omega)
      have hw4 := hl4.size
      have hX4 : ExR W4 _ _ (.mk 6 0 mt mt xs) := rex_args rex_I64.2.2.2.2.2.2.1 rex_I64.1 mt_ok mt_ok hV
      have hst5 : St R (prPure (.mk 6 0 mt mt xs)) T i4 e4 := HS3.out.then_ hst4
      have r0 := hb4.at_ 0 _ rfl
      have r1 := hb4.at_ 1 _ rfl
      have r2 := hb4.at_ 2 _ rfl
      have r3 := hb4.at_ 3 _ rfl
      have r4 := hb4.at_ 4 _ rfl
      have g0 := hb4.free 0
      have g1 := hb4.free 1
      have g2 := hb4.free 2
      have g3 := hb4.free 3
      have g4 := hb4.free 4
      have HS5 := Lib.hid hst5; have HL4 := Lib.hid hl4'; have HXR := Lib.hid hX4
      clear hst5 hl4' hX4
      clear hl4 hst4 HCA HB3 HL3 hb4 hV
      go_wp2_with fail
      refine bodyPost_ret (v := .agg #[.int .i64 6, .int .i64 0, .string mt, .string mt, .slice A4 xs.length c4]) (by simp [results, Tryz.results269, go_sem, r0, r1, r2, r3, r4, mt]) rfl ?_
      exact ⟨.mk 6 0 mt mt xs, _, i4, e4, rfl, ⟨_, rfl, ex_res5 HXR.out (fun k hk => ⟨by have := hk.1; omega, hk.2⟩) _ _ _ _ _⟩, HS5.out, HL4.out.res5 hbl _ _ _ _ _⟩
    | false =>
      obtain ⟨rfl, hst3⟩ := HS2.out.no hz
      have hn8 := one_any hl3'.start hl3'.lt
      have HS3 := Lib.hid hst3; have HL3 := Lib.hid hl3'; have HB3 := Lib.hid hb3; have HN8 := Lib.hid hn8
      clear hst3 hl3' hb3 hn8
      clear hl3 HSE2 HS2 HB2 hz HL2
      go_wp2_with fail
      refine HN8.out.mono ?_
      rintro en W4 ⟨t, j, rfl, hN, hk, htx, hl4⟩
      have hl4' := HL3.out.trans hl4
      have hb4 := hl4.grew.box_ HB3.out (by omega)
      have hw4 := hl4.size
      obtain ⟨kd, tx⟩ := t
      dsimp only at *
      go_upto_region 8 with fail
      have hBt := Box.made W4 182 #[.int .i64 kd, .string tx]
      have hbt : Below W4.heap.size W4 (W4.alloc (.cells #[.int .i64 kd, .string tx] 182)) := by go_grown
      have hzt : (W4.alloc (.cells #[.int .i64 kd, .string tx] 182)).heap.size = W4.heap.size + 1 := by simp
      generalize W4.alloc (.cells #[.int .i64 kd, .string tx] 182) = W5 at hBt hbt hzt ⊢
      have hl5 := hl4'.below hbt
      have hb5 := hb4.later hbt hb4.lt
      have hnb : W4.heap.size ≠ b := by have := hl4.lt; omega
      have hnr : W4.heap.size ≠ W.heap.size := by omega
      have hw5 := hbt.size
      have htl := hBt.lt
      have hfine : kd = 2 → numOk tx = true := fun hk2 => by
        rcases hN with ⟨_, _, h3⟩ | ⟨_, h1, _⟩
        · exact hl5.fine _ h3 hk2
        · injection h1 with h1 _; rw [h1] at hk2; cases hk2
      have hbad : (∀ L, prLeaf (prExpr f) (⟨kd, tx⟩ :: L) = .error 4) → St R (prPure (Ex.mk 0 0 mt mt [])) T j (badE 0 4) := fun hp => HS3.out.bad (fun _ => by
        rcases hN with ⟨_, h1, _⟩ | ⟨h1, _, _⟩
        · rw [h1]; exact hp _
        · rw [h1 rfl]; rfl) (by decide)
      have hgood : ∀ q : Pr Ex, (∀ L, prLeaf (prExpr f) (⟨kd, tx⟩ :: L) = q L) → kd ≠ 0 → St R q T j 0 := fun q hp hk => HS3.out.eq (fun _ => by
        rcases hN with ⟨_, h1, _⟩ | ⟨_, h1, _⟩
        · rw [h1]; exact hp _
        · injection h1 with h1 _; exact absurd h1 hk)
      have hid := fun U => nameMay_any tx U htx
      obtain ⟨z1, hz1⟩ : ∃ z, (nameOk tx) = z := ⟨_, rfl⟩
      rw [hz1] at hid
      have Z1 := Lib.hid hz1; clear hz1
      have x0 := hBt.at_ 0 _ rfl
      have x1 := hBt.at_ 1 _ rfl
      have r0 := hb5.at_ 0 _ rfl
      have r1 := hb5.at_ 1 _ rfl
      have r2 := hb5.at_ 2 _ rfl
      have r3 := hb5.at_ 3 _ rfl
      have r4 := hb5.at_ 4 _ rfl
      have g0 := hb5.free 0
      have g1 := hb5.free 1
      have g2 := hb5.free 2
      have g3 := hb5.free 3
      have g4 := hb5.free 4
      have HTX := Lib.hid htx; have HL5 := Lib.hid hl5; have HB5 := Lib.hid hb5; have HID := Lib.hid hid; have HBT := Lib.hid hBt; have HBAD := Lib.hid hbad; have HGOOD := Lib.hid hgood; have HFINE := Lib.hid hfine
      clear htx hl5 hb5 hid hBt hbad hgood hfine
      clear hl4 hl4' hb4 hbt hzt hN HS3 HL3 HB3 HN8
      cases hq3 : (kd == 3) with
      | true =>
        have hk3 : kd = 3 := by simpa using hq3
        have hw := HGOOD.out (prPure (.mk 2 0 mt tx [])) (fun L => by rw [prLeaf_cons, if_pos hk3]; rfl) (by omega)
        have HW := Lib.hid hw
        clear hw
        go_wp2_with fail
        refine bodyPost_ret (v := .agg #[.int .i64 2, .int .i64 0, .string mt, .string tx, .slice none 0 0]) (by simp [results, Tryz.results269, go_sem, r0, r1, r2, r3, r4, mt]) rfl ?_
        exact ⟨.mk 2 0 mt tx [], _, j, 0, rfl, ⟨_, rfl, ex_res5 (rex_plain _ rex_I64.2.2.1 rex_I64.1 mt_ok HTX.out) (fun k hk => hk.elim) _ _ _ _ _⟩, HW.out, HL5.out.res5 hbl _ _ _ _ _⟩
      | false =>
        have hk3 : kd ≠ 3 := by simpa using hq3
        cases hq2 : (kd == 2) with
        | true =>
          have hk2 : kd = 2 := by simpa using hq2
          have hw := HGOOD.out (prPure (.mk 1 (spell 0 tx.data.toList : Nat) mt mt [])) (fun L => by rw [prLeaf_cons, if_neg hk3, if_pos hk2]; rfl) (by omega)
          have hnum := HFINE.out hk2
          have HW := Lib.hid hw
          clear hw
          obtain ⟨h6, hstep⟩ := num_steps hnum
          have hvle := (num_atoi hnum).2
          have hLEN : tx.data.toList.take tx.size = tx.data.toList := List.take_of_length_le (by rw [Array.length_toList]; exact Nat.le_refl _)
          have HSTEP := Lib.hid hstep; have HLEN := Lib.hid hLEN; have HVLE := Lib.hid hvle
          clear hstep hLEN hvle
          clear hnum
          go_wp2_with fail
          go_loopg [5, 6] tx.size (fun gg s5 s6 wr => ∃ kk : Nat, kk ≤ tx.size ∧ tx.size - kk ≤ gg ∧ s6 = .int .i64 kk ∧ wr = W5 ∧ s5 = .int .i64 (spell 0 (tx.data.toList.take kk) : Nat))
          case atStart => exact ⟨0, Nat.zero_le _, by omega, rfl, rfl, rfl⟩
          case round =>
            obtain ⟨kk, hkk, hg, rfl, rfl, rfl⟩ := hrel
            by_cases hlt : kk < tx.size
            · have hltz : (kk : Int) < (tx.size : Int) := by omega
              obtain ⟨d1, d2, d3, d4⟩ := HSTEP.out kk hlt
              obtain ⟨v, hv⟩ : ∃ v, spell 0 (tx.data.toList.take kk) = v := ⟨_, rfl⟩
              rw [hv] at d3 d4 ⊢
              have hb : (tx[kk].toNat : Int) < 256 := by omega
              have hv1 : IntKind.i64.wrap (10 * (v : Int)) = 10 * (v : Int) := IntWalk.i64_in _ (by omega)
              have D3 := Lib.hid d3
              clear d3
              clear hv
              go_wp2_with fail
              go_roundg (tx.size - (kk + 1))
              case measure => omega
              case rel =>
                refine ⟨kk + 1, by omega, by omega, by go_num, rfl, ?_⟩
                rw [D3.out]
                congr 1
                omega
            · have hltz : ¬ (kk : Int) < (tx.size : Int) := by omega
              obtain rfl : kk = tx.size := by omega
              obtain ⟨v, hv⟩ : ∃ v, spell 0 (tx.data.toList) = v := ⟨_, rfl⟩
              have hw2 := HW.out
              have hvl := HVLE.out
              rw [hv] at hw2 hvl
              have hi64 : I64 (v : Int) := by unfold I64; omega
              rw [HLEN.out, hv]
              have HW2 := Lib.hid hw2; have HI64 := Lib.hid hi64
              clear hw2 hi64
              clear hv HW
              go_wp2_with fail
              refine bodyPost_ret (v := .agg #[.int .i64 1, .int .i64 v, .string mt, .string mt, .slice none 0 0]) (by simp [results, Tryz.results269, go_sem, r0, r1, r2, r3, r4, mt]) rfl ?_
              exact ⟨.mk 1 v mt mt [], _, rfl, ⟨_, rfl, ex_res5 (rex_plain _ rex_I64.2.1 HI64.out mt_ok mt_ok) (fun k hk => hk.elim) _ _ _ _ _⟩, j, 0, HW2.out, HL5.out.res5 hbl _ _ _ _ _⟩
        | false =>
          have hk2 : kd ≠ 2 := by simpa using hq2
          cases hq1 : (kd == 1) with
          | false =>
            have hk1 : kd ≠ 1 := by simpa using hq1
            have hqz : (kd != 1) = true := by simp [hk1]
            have hw := HBAD.out (fun L => by rw [prLeaf_cons, if_neg hk3, if_neg hk2, if_neg (fun h => hk1 h.1)])
            have hbd := ebad_any 4 HL5.out.start
            have HW := Lib.hid hw; have HBD := Lib.hid hbd
            clear hw hbd
            go_wp2_with fail
            refine HBD.out.mono ?_
            rintro en W6 ⟨rfl, hl⟩
            have hl6 := HL5.out.trans hl
            have hb6 := hl.grew.box_ HB5.out (by omega)
            clear r0 r1 r2 r3 r4 g0 g1 g2 g3 g4
            have r0 := hb6.at_ 0 _ rfl
            have r1 := hb6.at_ 1 _ rfl
            have r2 := hb6.at_ 2 _ rfl
            have r3 := hb6.at_ 3 _ rfl
            have r4 := hb6.at_ 4 _ rfl
            have g0 := hb6.free 0
            have g1 := hb6.free 1
            have g2 := hb6.free 2
            have g3 := hb6.free 3
            have g4 := hb6.free 4
            have HL6 := Lib.hid hl6
            clear hl6
            clear hl hb6
            go_wp2_with fail
            refine bodyPost_ret (v := .agg #[.int .i64 0, .int .i64 0, .string mt, .string mt, .slice none 0 0]) (by simp [results, Tryz.results269, go_sem, r0, r1, r2, r3, r4, mt]) rfl ?_
            exact ⟨.mk 0 0 mt mt [], _, j, _, rfl, ⟨_, rfl, ex_res5 (rex_plain _ rex_I64.1 rex_I64.1 mt_ok mt_ok) (fun k hk => hk.elim) _ _ _ _ _⟩, HW.out, HL6.out.res5 hbl _ _ _ _ _⟩
          | true =>
            have hk1 : kd = 1 := by simpa using hq1
            have hqz : (kd != 1) = false := by simp [hk1]
            cases z1 with
            | false =>
              have hw := HBAD.out (fun L => by rw [prLeaf_cons, if_neg hk3, if_neg hk2, if_neg (by rw [Z1.out]; exact fun h => by cases h.2)])
              have hbd := ebad_any 4 HL5.out.start
              have HW := Lib.hid hw; have HBD := Lib.hid hbd
              clear hw hbd
              go_wp2_with (go_at_call 98; (with_reducible refine (HID.out _).mono ?_); rintro en w' ⟨rfl, rfl⟩)
              refine HBD.out.mono ?_
              rintro en W6 ⟨rfl, hl⟩
              have hl6 := HL5.out.trans hl
              have hb6 := hl.grew.box_ HB5.out (by omega)
              clear r0 r1 r2 r3 r4 g0 g1 g2 g3 g4
              have r0 := hb6.at_ 0 _ rfl
              have r1 := hb6.at_ 1 _ rfl
              have r2 := hb6.at_ 2 _ rfl
              have r3 := hb6.at_ 3 _ rfl
              have r4 := hb6.at_ 4 _ rfl
              have g0 := hb6.free 0
              have g1 := hb6.free 1
              have g2 := hb6.free 2
              have g3 := hb6.free 3
              have g4 := hb6.free 4
              have HL6 := Lib.hid hl6
              clear hl6
              clear hl hb6
              go_wp2_with fail
              refine bodyPost_ret (v := .agg #[.int .i64 0, .int .i64 0, .string mt, .string mt, .slice none 0 0]) (by simp [results, Tryz.results269, go_sem, r0, r1, r2, r3, r4, mt]) rfl ?_
              exact ⟨.mk 0 0 mt mt [], _, j, _, rfl, ⟨_, rfl, ex_res5 (rex_plain _ rex_I64.1 rex_I64.1 mt_ok mt_ok) (fun k hk => hk.elim) _ _ _ _ _⟩, HW.out, HL6.out.res5 hbl _ _ _ _ _⟩
            | true =>
              have hw : St R (prNamed (prExpr f) tx) T j 0 := HGOOD.out (prNamed (prExpr f) tx) (fun L => by rw [prLeaf_cons, if_neg hk3, if_neg hk2, if_pos ⟨hk1, Z1.out⟩]) (by omega)
              have HW := Lib.hid hw
              clear hw
              go_upto_region 21 with (go_at_call 98; (with_reducible refine (HID.out _).mono ?_); rintro en w' ⟨rfl, rfl⟩)
              have hBo := Box.made W5 81 #[.int .i64 4, .int .i64 0, .string ⟨#[]⟩, .string tx, .slice none 0 0]
              have hbo : Below W5.heap.size W5 (W5.alloc (.cells #[.int .i64 4, .int .i64 0, .string ⟨#[]⟩, .string tx, .slice none 0 0] 81)) := by go_grown
              have hzo : (W5.alloc (.cells #[.int .i64 4, .int .i64 0, .string ⟨#[]⟩, .string tx, .slice none 0 0] 81)).heap.size = W5.heap.size + 1 := by simp
              generalize W5.alloc (.cells #[.int .i64 4, .int .i64 0, .string ⟨#[]⟩, .string tx, .slice none 0 0] 81) = W6 at hBo hbo hzo ⊢
              obtain ⟨N, hN⟩ : ∃ n, W5.heap.size = n := ⟨_, rfl⟩
              have hd6 : Dish b F A c T W 81 #[.int .i64 0, .int .i64 0, .string ⟨#[]⟩, .string ⟨#[]⟩, .slice none 0 0] W5.heap.size #[.int .i64 4, .int .i64 0, .string ⟨#[]⟩, .string tx, .slice none 0 0] W6 j 0 d := ⟨HL5.out.below hbo, HB5.out.later hbo HB5.out.lt, hBo, hbl, by omega⟩
              have ht6 := HBT.out.later hbo HBT.out.lt
              have htn : W4.heap.size ≠ N := by omega
              have hNl := hBo.lt
              rw [hN] at hd6 hNl ⊢
              have hsee := sees_any hd6.start sDot
              clear x0 x1 r0 r1 r2 r3 r4 g0 g1 g2 g3 g4 hBo hbo hzo hN HL5 HB5 HBT HBAD HGOOD HFINE
              have HD6 := Lib.hid hd6; have HT6 := Lib.hid ht6; have HSE6 := Lib.hid hsee
              clear hd6 ht6 hsee
              go_wp2_with fail
              refine HSE6.out.mono ?_
              rintro en W7 ⟨z, i7, rfl, hz, hl⟩
              have hd7 := HD6.out.go hl
              have ht7 := hl.grew.box_ HT6.out hnb
              cases z with
              | true =>
                have hst7 := HW.out.yes hz
                have hb := hd7.out
                have x0 := ht7.at_ 0 _ rfl
                have x1 := ht7.at_ 1 _ rfl
                have y2 := hb.at_ 2 _ rfl
                have g2 := hb.free 2
                have HD7 := Lib.hid hd7; have HST7 := Lib.hid hst7
                clear hd7 hst7
                clear hl hz hb ht7
                go_upto_region 23 with fail
                obtain ⟨W8, hW8⟩ : ∃ X, X = W7.setCell ⟨N, 2, none⟩ (.string tx) := ⟨_, rfl⟩
                have hd8 : Dish b F A c T W 81 #[.int .i64 0, .int .i64 0, .string ⟨#[]⟩, .string ⟨#[]⟩, .slice none 0 0] N #[.int .i64 4, .int .i64 0, .string tx, .string tx, .slice none 0 0] W8 i7 0 d := by rw [hW8]; exact HD7.out.set 2 _
                rw [← hW8]
                have hI := eident_any hd8.start
                have HD8 := Lib.hid hd8; have HI := Lib.hid hI
                clear hd8 hI
                clear hW8 x0 x1 y2 g2 HD7
                go_wp2_with fail
                refine HI.out.mono ?_
                rintro en W9 ⟨m, v, i9, e9, rfl, ⟨rfl, hm⟩, hst9, hl⟩
                have hd9 := HD8.out.go hl
                have hst10 : St R (prThen (prMust sLp) fun _ => prArgs (prExpr f) tx m) T i9 e9 := HST7.out.then_ hst9
                have hb := hd9.out
                have y3 := hb.at_ 3 _ rfl
                have g3 := hb.free 3
                have HD9 := Lib.hid hd9; have HM := Lib.hid hm; have HST10 := Lib.hid hst10
                clear hd9 hm hst10
                clear hl hst9 hb
                go_upto_region 24 with fail
                obtain ⟨W10, hW10⟩ : ∃ X, X = W9.setCell ⟨N, 3, none⟩ (.string m) := ⟨_, rfl⟩
                have hd10 : Dish b F A c T W 81 #[.int .i64 0, .int .i64 0, .string ⟨#[]⟩, .string ⟨#[]⟩, .slice none 0 0] N #[.int .i64 4, .int .i64 0, .string tx, .string m, .slice none 0 0] W10 i9 e9 d := by rw [hW10]; exact HD9.out.set 3 _
                rw [← hW10]
                have hwt := wants_any hd10.start sLp
                have HD10 := Lib.hid hd10; have HWT := Lib.hid hwt
                clear hd10 hwt
                clear hW10 y3 g3 HD9
                go_wp2_with fail
                refine HWT.out.mono ?_
                rintro en W11 ⟨_, _, i11, e11, rfl, rfl, hst11, hl⟩
                have hd11 := HD10.out.go hl
                have hst12 : St R (prArgs (prExpr f) tx m) T i11 e11 := HST10.out.then_ hst11
                have HD11 := Lib.hid hd11; have HS11 := Lib.hid hst12
                clear hd11 hst12
                clear hl hst11
                have hsee := sees_any HD11.out.start sRp
                have HSE11 := Lib.hid hsee
                clear hsee
                go_wp2_with fail
                refine HSE11.out.mono ?_
                rintro en W12 ⟨z, i12, rfl, hz, hl⟩
                have hd12 := HD11.out.go hl
                cases z with
                | true =>
                  have hst := HS11.out.yes hz
                  have hr := hd12.res
                  have ho := hd12.out
                  have r0 := hr.at_ 0 _ rfl
                  have r1 := hr.at_ 1 _ rfl
                  have r2 := hr.at_ 2 _ rfl
                  have r3 := hr.at_ 3 _ rfl
                  have r4 := hr.at_ 4 _ rfl
                  have g0 := hr.free 0
                  have g1 := hr.free 1
                  have g2 := hr.free 2
                  have g3 := hr.free 3
                  have g4 := hr.free 4
                  have y0 := ho.at_ 0 _ rfl
                  have y1 := ho.at_ 1 _ rfl
                  have y2 := ho.at_ 2 _ rfl
                  have y3 := ho.at_ 3 _ rfl
                  have y4 := ho.at_ 4 _ rfl
                  have HD12 := Lib.hid hd12; have HST12 := Lib.hid hst
                  clear hd12 hst
                  clear hr ho hl hz
                  go_wp2_with fail
                  refine bodyPost_ret (v := .agg #[.int .i64 4, .int .i64 0, .string tx, .string m, .slice none 0 0]) (by simp [results, Tryz.results269, go_sem, r0, r1, r2, r3, r4]) rfl ?_
                  exact ⟨.mk 4 0 tx m [], _, i12, _, rfl, ⟨_, rfl, ex_res5 (rex_plain _ rex_I64.2.2.2.2.1 rex_I64.1 HTX.out HM.out) (fun k hk => hk.elim) _ _ _ _ _⟩, HST12.out, HD12.out.sight.res5 hbl _ _ _ _ _⟩
                | false =>
                  obtain ⟨rfl, hst⟩ := HS11.out.no hz
                  have hca := HAL.out W12 i12 e11 sRp hd12.start
                  have HD12 := Lib.hid hd12; have HST12 := Lib.hid hst; have HCA12 := Lib.hid hca
                  clear hd12 hst hca
                  clear hl hz
                  go_wp2_with fail
                  refine HCA12.out.mono ?_
                  rintro en W13 ⟨xs, v, i13, e13, rfl, hV, hst2, hl⟩
                  obtain ⟨A13, c13, rfl, -⟩ := SliceOf.form hV
                  have hd13 := HD12.out.go hl
                  have hsz13 := hl.size
                  have hwa := HD12.out.sight.size
                  have hX13 : ExR W13 _ _ (.mk 4 0 tx m xs) := rex_args rex_I64.2.2.2.2.1 rex_I64.1 HTX.out HM.out hV
                  have hst3 : St R (prPure (.mk 4 0 tx m xs)) T i13 e13 := HST12.out.then_ hst2
                  have hb := hd13.out
                  have hn13 := HD12.out.out.lt
                  have y0 := hb.at_ 0 _ rfl
                  have y1 := hb.at_ 1 _ rfl
                  have y2 := hb.at_ 2 _ rfl
                  have y3 := hb.at_ 3 _ rfl
                  have y4 := hb.at_ 4 _ rfl
                  have q4 := hb.free 4
                  have HD13 := Lib.hid hd13; have HX13 := Lib.hid hX13; have HST13 := Lib.hid hst3
                  clear hd13 hX13 hst3
                  clear hl hst2 hV hb
                  go_upto_region 29 with fail
                  obtain ⟨W14, hWW⟩ : ∃ X, X = W13.setCell ⟨N, 4, none⟩ (.slice A13 xs.length c13) := ⟨_, rfl⟩
                  have hd : Dish b F A c T W 81 #[.int .i64 0, .int .i64 0, .string ⟨#[]⟩, .string ⟨#[]⟩, .slice none 0 0] N #[.int .i64 4, .int .i64 0, .string tx, .string m, .slice A13 xs.length c13] W14 i13 e13 d := by rw [hWW]; exact HD13.out.set 4 _
                  have hX : ExR W14 (fresh W12.heap.size W13.heap.size) [.int .i64 4, .int .i64 0, .string tx, .string m, .slice A13 xs.length c13] (.mk 4 0 tx m xs) := by
                    rw [hWW]
                    exact ExR.stays _ _ _ _ _ _ HX13.out (fun _ h => h) ((Keeps.refl _ _).setCell (fun h => by have h1 : W12.heap.size ≤ N := h.1; omega) _)
                  have hsw : W14.heap.size = W13.heap.size := by rw [hWW]; exact size_set _ _ _
                  have hlen := HD13.out.le
                  rw [← hWW]
                  have hr := hd.res
                  have ho := hd.out
                  clear y0 y1 y2 y3 y4 q4 hWW
                  have r0 := hr.at_ 0 _ rfl
                  have r1 := hr.at_ 1 _ rfl
                  have r2 := hr.at_ 2 _ rfl
                  have r3 := hr.at_ 3 _ rfl
                  have r4 := hr.at_ 4 _ rfl
                  have g0 := hr.free 0
                  have g1 := hr.free 1
                  have g2 := hr.free 2
                  have g3 := hr.free 3
                  have g4 := hr.free 4
                  have y0 := ho.at_ 0 _ rfl
                  have y1 := ho.at_ 1 _ rfl
                  have y2 := ho.at_ 2 _ rfl
                  have y3 := ho.at_ 3 _ rfl
                  have y4 := ho.at_ 4 _ rfl
                  have HDF := Lib.hid hd; have HXF := Lib.hid hX
                  clear hd hX
                  clear hr ho
                  go_wp2_with fail
                  refine bodyPost_ret (v := .agg #[.int .i64 4, .int .i64 0, .string tx, .string m, .slice A13 xs.length c13]) (by simp [results, Tryz.results269, go_sem, r0, r1, r2, r3, r4]) rfl ?_
                  exact ⟨.mk 4 0 tx m xs, _, i13, e13, rfl, ⟨_, rfl, ex_res5 HXF.out (fun k hk => ⟨by have := hk.1; omega, by have := hk.2; omega⟩) _ _ _ _ _⟩, HST13.out, HDF.out.sight.res5 hbl _ _ _ _ _⟩
              | false =>
                obtain ⟨rfl, hst7⟩ := HW.out.no hz
                have hsee := sees_any hd7.start sLp
                have HD7 := Lib.hid hd7; have HST7 := Lib.hid hst7; have HT7 := Lib.hid ht7; have HSE7 := Lib.hid hsee
                clear hd7 hst7 ht7 hsee
                clear hl hz
                go_wp2_with fail
                refine HSE7.out.mono ?_
                rintro en W8 ⟨z, i8, rfl, hz, hl⟩
                have hd8 := HD7.out.go hl
                have ht8 := hl.grew.box_ HT7.out hnb
                cases z with
                | false =>
                  obtain ⟨rfl, hst8⟩ := HST7.out.no hz
                  have hr := hd8.res
                  have x0 := ht8.at_ 0 _ rfl
                  have x1 := ht8.at_ 1 _ rfl
                  have r0 := hr.at_ 0 _ rfl
                  have r1 := hr.at_ 1 _ rfl
                  have r2 := hr.at_ 2 _ rfl
                  have r3 := hr.at_ 3 _ rfl
                  have r4 := hr.at_ 4 _ rfl
                  have g0 := hr.free 0
                  have g1 := hr.free 1
                  have g2 := hr.free 2
                  have g3 := hr.free 3
                  have g4 := hr.free 4
                  have HD8 := Lib.hid hd8; have HST8 := Lib.hid hst8
                  clear hd8 hst8
                  clear hl hz hr ht8
                  go_wp2_with fail
                  refine bodyPost_ret (v := .agg #[.int .i64 3, .int .i64 0, .string mt, .string tx, .slice none 0 0]) (by simp [results, Tryz.results269, go_sem, r0, r1, r2, r3, r4, mt]) rfl ?_
                  exact ⟨.mk 3 0 mt tx [], _, _, _, rfl, ⟨_, rfl, ex_res5 (rex_plain _ rex_I64.2.2.2.1 rex_I64.1 mt_ok HTX.out) (fun k hk => hk.elim) _ _ _ _ _⟩, HST8.out, HD8.out.sight.res5 hbl _ _ _ _ _⟩
                | true =>
                  have hst8 : St R (prArgs (prExpr f) mt tx) T i8 0 := HST7.out.yes hz
                  have HD8 := Lib.hid hd8; have HS8 := Lib.hid hst8
                  clear hd8 hst8
                  clear hl hz ht8
                  have hsee := sees_any HD8.out.start sRp
                  have HSE8 := Lib.hid hsee
                  clear hsee
                  go_wp2_with fail
                  refine HSE8.out.mono ?_
                  rintro en W9 ⟨z, i9, rfl, hz, hl⟩
                  have hd9 := HD8.out.go hl
                  cases z with
                  | true =>
                    have hst := HS8.out.yes hz
                    have hr := hd9.res
                    have ho := hd9.out
                    have r0 := hr.at_ 0 _ rfl
                    have r1 := hr.at_ 1 _ rfl
                    have r2 := hr.at_ 2 _ rfl
                    have r3 := hr.at_ 3 _ rfl
                    have r4 := hr.at_ 4 _ rfl
                    have g0 := hr.free 0
                    have g1 := hr.free 1
                    have g2 := hr.free 2
                    have g3 := hr.free 3
                    have g4 := hr.free 4
                    have y0 := ho.at_ 0 _ rfl
                    have y1 := ho.at_ 1 _ rfl
                    have y2 := ho.at_ 2 _ rfl
                    have y3 := ho.at_ 3 _ rfl
                    have y4 := ho.at_ 4 _ rfl
                    have HD9 := Lib.hid hd9; have HST9 := Lib.hid hst
                    clear hd9 hst
                    clear hr ho hl hz
                    go_wp2_with fail
                    refine bodyPost_ret (v := .agg #[.int .i64 4, .int .i64 0, .string mt, .string tx, .slice none 0 0]) (by simp [results, Tryz.results269, go_sem, r0, r1, r2, r3, r4, mt]) rfl ?_
                    exact ⟨.mk 4 0 mt tx [], _, i9, _, rfl, ⟨_, rfl, ex_res5 (rex_plain _ rex_I64.2.2.2.2.1 rex_I64.1 mt_ok HTX.out) (fun k hk => hk.elim) _ _ _ _ _⟩, HST9.out, HD9.out.sight.res5 hbl _ _ _ _ _⟩
                  | false =>
                    obtain ⟨rfl, hst⟩ := HS8.out.no hz
                    have hca := HAL.out W9 i9 0 sRp hd9.start
                    have HD9 := Lib.hid hd9; have HST9 := Lib.hid hst; have HCA9 := Lib.hid hca
                    clear hd9 hst hca
                    clear hl hz
                    go_wp2_with fail
                    refine HCA9.out.mono ?_
                    rintro en W10 ⟨xs, v, i10, e10, rfl, hV, hst2, hl⟩
                    obtain ⟨A10, c10, rfl, -⟩ := SliceOf.form hV
                    have hd10 := HD9.out.go hl
                    have hsz10 := hl.size
                    have hwa := HD9.out.sight.size
                    have hX10 : ExR W10 _ _ (.mk 4 0 mt tx xs) := rex_args rex_I64.2.2.2.2.1 rex_I64.1 mt_ok HTX.out hV
                    have hst3 : St R (prPure (.mk 4 0 mt tx xs)) T i10 e10 := HST9.out.then_ hst2
                    have hb := hd10.out
                    have hn10 := HD9.out.out.lt
                    have y0 := hb.at_ 0 _ rfl
                    have y1 := hb.at_ 1 _ rfl
                    have y2 := hb.at_ 2 _ rfl
                    have y3 := hb.at_ 3 _ rfl
                    have y4 := hb.at_ 4 _ rfl
                    have q4 := hb.free 4
                    have HD10 := Lib.hid hd10; have HX10 := Lib.hid hX10; have HST10 := Lib.hid hst3
                    clear hd10 hX10 hst3
                    clear hl hst2 hV hb
                    go_upto_region 29 with fail
                    obtain ⟨W11, hWW⟩ : ∃ X, X = W10.setCell ⟨N, 4, none⟩ (.slice A10 xs.length c10) := ⟨_, rfl⟩
                    have hd : Dish b F A c T W 81 #[.int .i64 0, .int .i64 0, .string ⟨#[]⟩, .string ⟨#[]⟩, .slice none 0 0] N #[.int .i64 4, .int .i64 0, .string mt, .string tx, .slice A10 xs.length c10] W11 i10 e10 d := by rw [hWW]; exact HD10.out.set 4 _
                    have hX : ExR W11 (fresh W9.heap.size W10.heap.size) [.int .i64 4, .int .i64 0, .string mt, .string tx, .slice A10 xs.length c10] (.mk 4 0 mt tx xs) := by
                      rw [hWW]
                      exact ExR.stays _ _ _ _ _ _ HX10.out (fun _ h => h) ((Keeps.refl _ _).setCell (fun h => by have h1 : W9.heap.size ≤ N := h.1; omega) _)
                    have hsw : W11.heap.size = W10.heap.size := by rw [hWW]; exact size_set _ _ _
                    have hlen := HD10.out.le
                    rw [← hWW]
                    have hr := hd.res
                    have ho := hd.out
                    clear y0 y1 y2 y3 y4 q4 hWW
                    have r0 := hr.at_ 0 _ rfl
                    have r1 := hr.at_ 1 _ rfl
                    have r2 := hr.at_ 2 _ rfl
                    have r3 := hr.at_ 3 _ rfl
                    have r4 := hr.at_ 4 _ rfl
                    have g0 := hr.free 0
                    have g1 := hr.free 1
                    have g2 := hr.free 2
                    have g3 := hr.free 3
                    have g4 := hr.free 4
                    have y0 := ho.at_ 0 _ rfl
                    have y1 := ho.at_ 1 _ rfl
                    have y2 := ho.at_ 2 _ rfl
                    have y3 := ho.at_ 3 _ rfl
                    have y4 := ho.at_ 4 _ rfl
                    have HDF := Lib.hid hd; have HXF := Lib.hid hX
                    clear hd hX
                    clear hr ho
                    go_wp2_with fail
                    refine bodyPost_ret (v := .agg #[.int .i64 4, .int .i64 0, .string mt, .string tx, .slice A10 xs.length c10]) (by simp [results, Tryz.results269, go_sem, r0, r1, r2, r3, r4, mt]) rfl ?_
                    exact ⟨.mk 4 0 mt tx xs, _, i10, e10, rfl, ⟨_, rfl, ex_res5 HXF.out (fun k hk => ⟨by have := hk.1; omega, by have := hk.2; omega⟩) _ _ _ _ _⟩, HST10.out, HDF.out.sight.res5 hbl _ _ _ _ _⟩

end Go.Proofs.YtjaladhdnbhliaaGreatDoor

/- The reference's reader of tokens: something, and places in it, (*eye).tail. -/
namespace Go.Proofs.YtjaladhdnbhliaaGreatDoor
open Go.RowKit Go.Shelf

section
variable {β : Type} {R : Except Int (Ex × List Token)} {T : List Token} {i i' : Nat} {e : Int} {ex : Pr Ex} {m : Nat} {x : Ex}
theorem st_ats_stop (h : St R (prAts ex m x) T i e) (hs : Seen sLb T i e false i') : i' = i ∧ St R (prPure x) T i e := by
  rcases hs with ⟨_, rfl, hn⟩ | ⟨h, _⟩
  · exact ⟨rfl, h.eq (fun h0 => ats_stop (hn h0))⟩
  · cases h
theorem st_ats_go (h : St R (prAts ex m x) T i e) (hs : Seen sLb T i e true i') (hm : left T i e ≤ m + 1) : ∃ m', m = m' + 1 ∧ St R (prThen ex fun y => prThen (prMust sRb) fun _ => prAts ex m' (atOf x y)) T i' 0 := by
  rcases hs with ⟨h1, _⟩ | ⟨_, rfl, hn⟩
  · cases h1
  · have h1 := take_len hn
    rw [left_ok] at hm
    obtain ⟨m', rfl⟩ : ∃ m', m = m' + 1 := ⟨m - 1, by omega⟩
    exact ⟨m', rfl, h.eq (fun _ => prIf_yes hn)⟩
theorem st_sums_stop (h : St R (prSums ex m x) T i e) (hs : Seen sPlus T i e false i') : i' = i ∧ St R (prPure x) T i e := by
  rcases hs with ⟨_, rfl, hn⟩ | ⟨h, _⟩
  · exact ⟨rfl, h.eq (fun h0 => sums_stop (hn h0))⟩
  · cases h
theorem st_sums_go (h : St R (prSums ex m x) T i e) (hs : Seen sPlus T i e true i') (hm : left T i e ≤ m + 1) : ∃ m', m = m' + 1 ∧ St R (prThen ex fun y => prSums ex m' (sumOf x y)) T i' 0 := by
  rcases hs with ⟨h1, _⟩ | ⟨_, rfl, hn⟩
  · cases h1
  · have h1 := take_len hn
    rw [left_ok] at hm
    obtain ⟨m', rfl⟩ : ∃ m', m = m' + 1 := ⟨m - 1, by omega⟩
    exact ⟨m', rfl, h.eq (fun _ => prIf_yes hn)⟩
end
theorem Dish.alloc {b : Nat} {F : Foot} {A : Option Addr} {c : Nat} {T : List Token} {W W' : World} {i : Nat} {e d : Int} {rt : TypeId} {rc cs : Array Value} {n : Nat} (h : Dish b F A c T W rt rc n cs W' i e d) (o : Obj) : Dish b F A c T W rt rc n cs (W'.alloc o) i e d := h.below ((Below.refl _ _).alloc (Nat.le_refl _) o)
theorem Fit.grew {W w w' : World} {q b : Nat} {G : Foot} (h : Fit W q w G) (hg : Grew b w w' (some b)) : Fit W q w' G := fun k hk => ⟨(h k hk).1, (h k hk).2.1, Nat.lt_of_lt_of_le (h k hk).2.2 hg.size⟩
theorem ex_grew {W w w' : World} {q b : Nat} {G : Foot} {cs : List Value} {x : Ex} (hX : ExR w G cs x) (h : Fit W q w G) (hb : b < W.heap.size) (hg : Grew b w w' (some b)) : ExR w' G cs x :=
  ExR.stays _ _ _ _ _ _ hX (fun _ h => h) (keeps_of_heap fun k hk => hg.block k (h k hk).2.2 (fun e => by injection e with e; have := (h k hk).1; omega))

set_option maxRecDepth 100000 in
set_option maxHeartbeats 4000000 in
theorem etail_any {b : Nat} {F : Foot} {A : Option Addr} {c : Nat} {T : List Token} {f : Nat} (hx : EyeGives b F A c T f) (W : World) (i : Nat) (d : Int) (h : Sight b F A c T W W i 0 d) (hd : d + f = 40) (h0 : 0 ≤ d) :
    Calls Tryz.prog 250 #[.pointer (some ⟨b, 0, none⟩)] W (GaveEye (AggV ExR) b F A c T W (prPost (prExpr f)) i 0 d) := by
  have hst : St (Rs (prPost (prExpr f)) T i 0) (prPost (prExpr f)) T i 0 := St.start _
  obtain ⟨R, hR⟩ : ∃ R, Rs (prPost (prExpr f)) T i 0 = R := ⟨_, rfl⟩
  unfold GaveEye
  rw [hR] at hst ⊢
  have hbl := h.lt
  have h200 := h.len
  have hat := fun U (hU : Below W.heap.size W U) => ehead_any hx U i d (h.below hU).start hd h0
  have HX := Lib.hid hx; have HH := Lib.hid h; have HST := Lib.hid hst; have HAT := Lib.hid hat
  clear hx h hst hat
  clear hR
  go_enter Tryz.func250, Tryz.ntmps250
  go_upto_region 1 with fail
  have hBr := Box.made W 81 #[.int .i64 0, .int .i64 0, .string ⟨#[]⟩, .string ⟨#[]⟩, .slice none 0 0]
  have hbr : Below W.heap.size W (W.alloc (.cells #[.int .i64 0, .int .i64 0, .string ⟨#[]⟩, .string ⟨#[]⟩, .slice none 0 0] 81)) := by go_grown
  have hzr : (W.alloc (.cells #[.int .i64 0, .int .i64 0, .string ⟨#[]⟩, .string ⟨#[]⟩, .slice none 0 0] 81)).heap.size = W.heap.size + 1 := by simp
  generalize W.alloc (.cells #[.int .i64 0, .int .i64 0, .string ⟨#[]⟩, .string ⟨#[]⟩, .slice none 0 0] 81) = W1 at hBr hbr hzr ⊢
  have hl1 := HH.out.below hbr
  have hrl := hBr.lt
  have HL1 := Lib.hid hl1; have HB1 := Lib.hid hBr; have Hbr := Lib.hid hbr
  clear hl1 hBr hbr
  clear hzr
  go_wp2_with fail
  refine (HAT.out _ Hbr.out).mono ?_
  rintro en W2 ⟨x, v, i2, e2, rfl, ⟨cs, rfl, hX⟩, hst2, hl2⟩
  have hst3 : St R (prAts (prExpr f) (T.drop i2).length x) T i2 e2 := (HST.out.then_ hst2).eq (fun _ => rfl)
  have hl2' := HL1.out.trans hl2
  have hb2 := hl2.grew.box_ HB1.out (by omega)
  have hw2 := hl2.size
  obtain ⟨A2, c2, rfl⟩ := ExR.form hX
  have HST3 := Lib.hid hst3; have HL2 := Lib.hid hl2'; have HB2 := Lib.hid hb2; have HXR := Lib.hid hX
  clear hst3 hl2' hb2 hX
  clear hl2 hst2 HB1 HL1 HAT HST
  go_wp2_with fail
  have hBx := Box.made W2 81 #[.int .i64 x.kind, .int .i64 x.n, .string x.of_, .string x.s, .slice A2 x.args.length c2]
  have hbx : Below W2.heap.size W2 (W2.alloc (.cells #[.int .i64 x.kind, .int .i64 x.n, .string x.of_, .string x.s, .slice A2 x.args.length c2] 81)) := by go_grown
  have hzx : (W2.alloc (.cells #[.int .i64 x.kind, .int .i64 x.n, .string x.of_, .string x.s, .slice A2 x.args.length c2] 81)).heap.size = W2.heap.size + 1 := by simp
  generalize W2.alloc (.cells #[.int .i64 x.kind, .int .i64 x.n, .string x.of_, .string x.s, .slice A2 x.args.length c2] 81) = W3 at hBx hbx hzx ⊢
  have hq : W.heap.size < W2.heap.size := by omega
  have hd3 : Dish b F A c T W 81 _ W2.heap.size _ W3 i2 e2 d := ⟨HL2.out.below hbx, HB2.out.later hbx HB2.out.lt, hBx, hbl, hq⟩
  have hX3 := ExR.stays.later HXR.out hbx fresh_lt
  have hw3 := hbx.size
  obtain ⟨q, hqe⟩ : ∃ q, W2.heap.size = q := ⟨_, rfl⟩
  have hfit : Fit W q W3 (fresh W1.heap.size W2.heap.size) := fun k hk => ⟨by have := hk.1; omega, by have := hk.2; omega, by have := hk.2; omega⟩
  rw [hqe] at hd3 hq ⊢
  have HD3 := Lib.hid hd3; have HX3 := Lib.hid hX3; have HFIT := Lib.hid hfit
  clear hd3 hX3 hfit
  clear hbx hzx hBx HB2 HL2 HXR hqe
  go_loopg [] (left T i2 e2) (fun gg wr => ∃ (m c3 : Nat) (A3 : Option Addr) (x : Ex) (j : Nat) (e3 : Int) (G : Foot), left T j e3 ≤ gg ∧ left T j e3 ≤ m + 1 ∧ Aside (St R (prAts (prExpr f) m x) T j e3) ∧
    Aside (Dish b F A c T W 81 #[.int .i64 0, .int .i64 0, .string ⟨#[]⟩, .string ⟨#[]⟩, .slice none 0 0] q #[.int .i64 x.kind, .int .i64 x.n, .string x.of_, .string x.s, .slice A3 x.args.length c3] wr j e3 d) ∧
    Aside (ExR wr G [.int .i64 x.kind, .int .i64 x.n, .string x.of_, .string x.s, .slice A3 x.args.length c3] x) ∧ Aside (Fit W q wr G))
  case atStart => exact ⟨_, c2, A2, x, i2, e2, _, Nat.le_refl _, left_drop, aside HST3.out, aside HD3.out, aside HX3.out, aside HFIT.out⟩
  case round =>
    clear HD3 HX3 HFIT HST3
    obtain ⟨m, c3, A3, x, j, e3, G, hg, hm, hst4, hd4, hX4, hF4⟩ := hrel
    obtain ⟨W4, rfl⟩ : ∃ W, W = wr := ⟨_, rfl⟩
    have htk := sees_any hd4.out.start sLb
    have HTK := Lib.hid htk
    clear htk
    go_wp2_with fail
    refine HTK.out.mono ?_
    rintro en W5 ⟨z, j5, rfl, hz, hl5⟩
    have hd5 := hd4.out.go hl5
    have hX5 := ex_grew hX4.out hF4.out hbl hl5.grew
    have hF5 := hF4.out.grew hl5.grew
    cases z with
    | false =>
      obtain ⟨rfl, hst5⟩ := st_ats_stop hst4.out hz
      have hr5 := hd5.res
      have ho5 := hd5.out
      have r0 := hr5.at_ 0 _ rfl
      have r1 := hr5.at_ 1 _ rfl
      have r2 := hr5.at_ 2 _ rfl
      have r3 := hr5.at_ 3 _ rfl
      have r4 := hr5.at_ 4 _ rfl
      have g0 := hr5.free 0
      have g1 := hr5.free 1
      have g2 := hr5.free 2
      have g3 := hr5.free 3
      have g4 := hr5.free 4
      have x0 := ho5.at_ 0 _ rfl
      have x1 := ho5.at_ 1 _ rfl
      have x2 := ho5.at_ 2 _ rfl
      have x3 := ho5.at_ 3 _ rfl
      have x4 := ho5.at_ 4 _ rfl
      have HST5 := Lib.hid hst5; have HD5 := Lib.hid hd5; have HXR := Lib.hid hX5; have HF5 := Lib.hid hF5
      clear hst5 hd5 hX5 hF5
      clear hl5 hr5 ho5 hz HTK hX4 hd4 hF4 hst4
      go_wp2_with fail
      refine bodyPost_ret (v := .agg #[.int .i64 x.kind, .int .i64 x.n, .string x.of_, .string x.s, .slice A3 x.args.length c3]) (by simp [results, Tryz.results250, go_sem, r0, r1, r2, r3, r4]) rfl ?_
      have k1 : AggV ExR _ _ (.agg #[.int .i64 x.kind, .int .i64 x.n, .string x.of_, .string x.s, .slice A3 x.args.length c3]) x := ⟨_, rfl, ex_res5 HXR.out (fun k hk => ⟨(HF5.out k hk).1, (HF5.out k hk).2.2⟩) (.int .i64 x.kind) (.int .i64 x.n) (.string x.of_) (.string x.s) (.slice A3 x.args.length c3)⟩
      have k2 := HD5.out.sight.res5 hbl (.int .i64 x.kind) (.int .i64 x.n) (.string x.of_) (.string x.s) (.slice A3 x.args.length c3)
      first
        | exact ⟨x, _, rfl, k1, j5, e3, HST5.out, k2⟩
        | exact ⟨x, _, j5, e3, rfl, k1, HST5.out, k2⟩
    | true =>
      obtain ⟨m', rfl, hst5⟩ := st_ats_go hst4.out hz hm
      obtain ⟨rfl, hlt⟩ := left_seen hz
      have hcx := HX.out W5 j5 0 d hd5.start hd h0
      have HST5 := Lib.hid hst5; have HCX := Lib.hid hcx; have HD5 := Lib.hid hd5; have HXR := Lib.hid hX5; have HF5 := Lib.hid hF5
      clear hst5 hcx hd5 hX5 hF5
      clear hl5 HTK hX4 hd4 hF4 hst4 hz
      go_wp2_with fail
      refine HCX.out.mono ?_
      rintro en W6 ⟨y, v, j6, e6, rfl, ⟨cs, rfl, hY⟩, hst6, hl6⟩
      have hs6 := left_short (short_expr f) hst6
      have hst7 : St R (prThen (prMust sRb) fun _ => prAts (prExpr f) m' (atOf x y)) T j6 e6 := HST5.out.then_ hst6
      have hd6 := HD5.out.go hl6
      have hq6 := hd6.out.lt
      obtain ⟨A6, c6, rfl⟩ := ExR.form hY
      have hw6 := hl6.size
      have HST7 := Lib.hid hst7; have HD6 := Lib.hid hd6; have HYR := Lib.hid hY; have HL6 := Lib.hid hl6
      clear hst7 hd6 hY hl6
      clear hst6 HCX HST5
      go_upto_region 4 with fail
      have hBy := Box.made W6 81 #[.int .i64 y.kind, .int .i64 y.n, .string y.of_, .string y.s, .slice A6 y.args.length c6]
      have hby : Below W6.heap.size W6 (W6.alloc (.cells #[.int .i64 y.kind, .int .i64 y.n, .string y.of_, .string y.s, .slice A6 y.args.length c6] 81)) := by go_grown
      have hzy : (W6.alloc (.cells #[.int .i64 y.kind, .int .i64 y.n, .string y.of_, .string y.s, .slice A6 y.args.length c6] 81)).heap.size = W6.heap.size + 1 := by simp
      generalize W6.alloc (.cells #[.int .i64 y.kind, .int .i64 y.n, .string y.of_, .string y.s, .slice A6 y.args.length c6] 81) = W7 at hBy hby hzy ⊢
      have hd7 := HD6.out.below hby
      have hY7 := ExR.stays.later HYR.out hby fresh_lt
      have hg7 : Grew b W5 W7 (some b) := HL6.out.grew.trans_ (Grew.of_below hby some_le)
      have hw7 := hby.size
      have hms := wants_any hd7.start sRb
      have hyb : W6.heap.size ≠ b := by have := HL6.out.lt; omega
      have HD7 := Lib.hid hd7; have HY7 := Lib.hid hY7; have HG7 := Lib.hid hg7; have HMS := Lib.hid hms; have HBY := Lib.hid hBy
      clear hd7 hY7 hg7 hms hBy
      clear hby hzy HD6 HYR HL6
      go_wp2_with fail
      refine HMS.out.mono ?_
      rintro en W8 ⟨_, _, j8, e8, rfl, rfl, hst8, hl8⟩
      have hs8 := left_short short_must hst8
      have hst9 : St R (prAts (prExpr f) m' (atOf x y)) T j8 e8 := HST7.out.then_ hst8
      have hd8 := HD7.out.go hl8
      have hw8 := hl8.size
      have hby8 := hl8.grew.box_ HBY.out hyb
      have hY8 := ExR.stays _ _ _ _ _ _ HY7.out (fun _ h => h) (hl8.grew.keeps (n := W5.heap.size) (m := W6.heap.size) (by have := HD5.out.sight.lt; omega) hw7)
      have hY9 : ExR W8 (fresh W5.heap.size W8.heap.size) _ y := ExR.stays.wider hY8 (fresh_up (Nat.le_refl _) (by omega))
      have hg8 : Grew b W5 W8 (some b) := HG7.out.trans_ hl8.grew
      have ho8 := hd8.out
      have hq8 : W8.heap.size ≠ q := Nat.ne_of_gt ho8.lt
      have t0 := fun o => (hd8.alloc o).out.at_ 0 _ rfl
      have t1 := fun o => (hd8.alloc o).out.at_ 1 _ rfl
      have t2 := fun o => (hd8.alloc o).out.at_ 2 _ rfl
      have t3 := fun o => (hd8.alloc o).out.at_ 3 _ rfl
      have t4 := fun o => (hd8.alloc o).out.at_ 4 _ rfl
      have k0 := fun o => (hd8.alloc o).out.free 0
      have k1 := fun o => (hd8.alloc o).out.free 1
      have k2 := fun o => (hd8.alloc o).out.free 2
      have k3 := fun o => (hd8.alloc o).out.free 3
      have k4 := fun o => (hd8.alloc o).out.free 4
      have x0 := ho8.at_ 0 _ rfl
      have x1 := ho8.at_ 1 _ rfl
      have x2 := ho8.at_ 2 _ rfl
      have x3 := ho8.at_ 3 _ rfl
      have x4 := ho8.at_ 4 _ rfl
      have y0 := hby8.at_ 0 _ rfl
      have y1 := hby8.at_ 1 _ rfl
      have y2 := hby8.at_ 2 _ rfl
      have y3 := hby8.at_ 3 _ rfl
      have y4 := hby8.at_ 4 _ rfl
      have HST9 := Lib.hid hst9; have HD8 := Lib.hid hd8; have HY9 := Lib.hid hY9; have HG8 := Lib.hid hg8
      clear hst9 hd8 hY9 hg8
      clear hl8 hst8 HMS HD7 HY7 HG7 HBY ho8 hby8 hY8 HST7
      go_wp2_with fail
      go_roundg (left T j8 e8)
      case measure => omega
      case rel =>
        have hq5 := HD5.out.out.lt
        have hX9 := rex_two 81 HXR.out HF5.out HG8.out hbl HY9.out (k := 7) rex_I64.2.2.2.2.2.2.2
        have hF9 := HF5.out.two HG8.out.size hq5 HD5.out.le (.cells (([.int .i64 x.kind, .int .i64 x.n, .string x.of_, .string x.s, .slice A3 x.args.length c3] : List Value) ++ ([.int .i64 y.kind, .int .i64 y.n, .string y.of_, .string y.s, .slice A6 y.args.length c6] : List Value)).toArray 81)
        have hnq : ¬ two_ G W5.heap.size W8.heap.size q := fun h => (hF9 _ h).2.1 rfl
        refine ⟨m', 2, some ⟨W8.heap.size, 0, none⟩, atOf x y, j8, e8, two_ G W5.heap.size W8.heap.size, Nat.le_refl _, by omega, aside HST9.out, aside ?_, aside (ExR.stays _ _ _ _ _ _ hX9 (fun _ h => h) ?_), aside ?_⟩
        · show Dish b F A c T W _ _ q #[.int .i64 7, .int .i64 0, .string ⟨#[]⟩, .string ⟨#[]⟩, .slice (some ⟨W8.heap.size, 0, none⟩) 2 2] _ j8 e8 d
          simpa using (((((HD8.out.alloc _).set 0 (.int .i64 7)).set 1 (.int .i64 0)).set 2 (.string ⟨#[]⟩)).set 3 (.string ⟨#[]⟩)).set 4 (.slice (some ⟨W8.heap.size, 0, none⟩) 2 2)
        · exact (((((Keeps.refl _ _).setCell hnq _).setCell hnq _).setCell hnq _).setCell hnq _).setCell hnq _
        · intro k hk; simp only [size_set]; exact hF9 k hk

end Go.Proofs.YtjaladhdnbhliaaGreatDoor

/- The reference's reader of tokens: an expression, (*eye).expr. -/
namespace Go.Proofs.YtjaladhdnbhliaaGreatDoor
open Go.RowKit Go.Shelf

section
variable {b : Nat} {F : Foot} {A : Option Addr} {c : Nat} {T : List Token} {W W' : World} {i : Nat} {e d : Int} {rt : TypeId} {rc : Array Value} {n : Nat} {v0 v1 v2 v3 v4 : Value}
theorem Dish.set5 (h : Dish b F A c T W rt rc n #[v0, v1, v2, v3, v4] W' i e d) (u0 u1 u2 u3 u4 : Value) :
    Dish b F A c T W rt rc n #[u0, u1, u2, u3, u4] (((((W'.setCell ⟨n, 0, none⟩ u0).setCell ⟨n, 1, none⟩ u1).setCell ⟨n, 2, none⟩ u2).setCell ⟨n, 3, none⟩ u3).setCell ⟨n, 4, none⟩ u4) i e d := by
  simpa using ((((h.set 0 u0).set 1 u1).set 2 u2).set 3 u3).set 4 u4
theorem ex_set5 {G : Foot} {cs : List Value} {x : Ex} (hX : ExR W' G cs x) (hn : ¬ G n) (u0 u1 u2 u3 u4 : Value) :
    ExR (((((W'.setCell ⟨n, 0, none⟩ u0).setCell ⟨n, 1, none⟩ u1).setCell ⟨n, 2, none⟩ u2).setCell ⟨n, 3, none⟩ u3).setCell ⟨n, 4, none⟩ u4) G cs x :=
  ExR.stays _ _ _ _ _ _ hX (fun _ h => h) ((((((Keeps.refl _ _).setCell (fun h => hn h) _).setCell (fun h => hn h) _).setCell (fun h => hn h) _).setCell (fun h => hn h) _).setCell (fun h => hn h) _)
theorem Fit.set5 {q : Nat} {G : Foot} (h : Fit W q W' G) (u0 u1 u2 u3 u4 : Value) :
    Fit W q (((((W'.setCell ⟨n, 0, none⟩ u0).setCell ⟨n, 1, none⟩ u1).setCell ⟨n, 2, none⟩ u2).setCell ⟨n, 3, none⟩ u3).setCell ⟨n, 4, none⟩ u4) G := by
  intro k hk; simp only [size_set]; exact h k hk
end
/-- An expression is made, so far. -/
def ExprHas (b : Nat) (F : Foot) (A : Option Addr) (c : Nat) (T : List Token) (W : World) (R : Except Int (Ex × List Token)) (n : Nat) (d : Int) (w' : World) : Prop :=
  ∃ (x : Ex) (i' : Nat) (e' : Int) (A' : Option Addr) (c' : Nat) (G : Foot), Dish b F A c T W 81 #[.int .i64 0, .int .i64 0, .string ⟨#[]⟩, .string ⟨#[]⟩, .slice none 0 0] n #[.int .i64 x.kind, .int .i64 x.n, .string x.of_, .string x.s, .slice A' x.args.length c'] w' i' e' d ∧
    ExR w' G [.int .i64 x.kind, .int .i64 x.n, .string x.of_, .string x.s, .slice A' x.args.length c'] x ∧ Fit W n w' G ∧ St R (prPure x) T i' e'

set_option maxRecDepth 100000 in
set_option maxHeartbeats 4000000 in
theorem eexpr_step {b : Nat} {F : Foot} {A : Option Addr} {c : Nat} {T : List Token} {W : World} {i f : Nat} {e d : Int} (h : Sight b F A c T W W i e d) (hd : d + f = 40) (h0 : 0 ≤ d)
    (ih : ∀ f', f = f' + 1 → EyeGives b F A c T f') :
    Calls Tryz.prog 209 #[.pointer (some ⟨b, 0, none⟩)] W (GaveEye (AggV ExR) b F A c T W (prExpr f) i e d) := by
  obtain ⟨e1, hdn, hst, he1⟩ : ∃ e1, (∀ U, Below W.heap.size W U → Calls Tryz.prog 208 #[.pointer (some ⟨b, 0, none⟩)] U fun en w' => en = .returned (.tuple #[]) ∧ Sight b F A c T U w' i e1 (d + 1)) ∧ St (Rs (prExpr f) T i e) (prExpr f) T i e1 ∧ (e1 = 0 → ∃ f', f = f' + 1) := by
    cases f with
    | zero =>
      obtain rfl : d = 40 := by omega
      refine ⟨badE e 1, fun U hU => down_deep (h.below hU).start, (St.start _).bad (fun _ => rfl) (by decide), fun h => ?_⟩
      unfold badE at h
      split at h
      · cases h
      · exact absurd h ‹_›
    | succ f => exact ⟨e, fun U hU => down_fine (h.below hU).start h0 (by omega), St.start _, fun _ => ⟨f, rfl⟩⟩
  obtain ⟨R, hR⟩ : ∃ R, Rs (prExpr f) T i e = R := ⟨_, rfl⟩
  unfold GaveEye
  rw [hR] at hst ⊢
  have hbl := h.lt
  have HDN := Lib.hid hdn; have HST := Lib.hid hst; have IH := Lib.hid ih; have HH := Lib.hid h; have HE1 := Lib.hid he1
  clear hdn hst ih h he1
  clear hR
  go_enter Tryz.func209, Tryz.ntmps209
  go_upto_region 1 with fail
  have hBr := Box.made W 81 #[.int .i64 0, .int .i64 0, .string ⟨#[]⟩, .string ⟨#[]⟩, .slice none 0 0]
  have hbr : Below W.heap.size W (W.alloc (.cells #[.int .i64 0, .int .i64 0, .string ⟨#[]⟩, .string ⟨#[]⟩, .slice none 0 0] 81)) := by go_grown
  have hzr : (W.alloc (.cells #[.int .i64 0, .int .i64 0, .string ⟨#[]⟩, .string ⟨#[]⟩, .slice none 0 0] 81)).heap.size = W.heap.size + 1 := by simp
  generalize W.alloc (.cells #[.int .i64 0, .int .i64 0, .string ⟨#[]⟩, .string ⟨#[]⟩, .slice none 0 0] 81) = W1 at hBr hbr hzr ⊢
  have hs1 := HH.out.below hbr
  have hlr := hBr.lt
  have Hb := Lib.hid hbr; have HBr := Lib.hid hBr; have HS1 := Lib.hid hs1
  clear hbr hBr hs1
  clear hzr
  go_wp2_with fail
  refine (HDN.out _ Hb.out).mono ?_
  rintro en W2 ⟨rfl, hl⟩
  have hs2 := HS1.out.trans hl
  have hB2 := hl.grew.box_ HBr.out (by omega)
  have hw12 := hl.grew.size
  clear hl HBr HS1 Hb
  go_upto_region 3 with fail
  have hBo := Box.made W2 81 #[.int .i64 0, .int .i64 0, .string ⟨#[]⟩, .string ⟨#[]⟩, .slice none 0 0]
  have hbo : Below W2.heap.size W2 (W2.alloc (.cells #[.int .i64 0, .int .i64 0, .string ⟨#[]⟩, .string ⟨#[]⟩, .slice none 0 0] 81)) := by go_grown
  have hzo : (W2.alloc (.cells #[.int .i64 0, .int .i64 0, .string ⟨#[]⟩, .string ⟨#[]⟩, .slice none 0 0] 81)).heap.size = W2.heap.size + 1 := by simp
  generalize W2.alloc (.cells #[.int .i64 0, .int .i64 0, .string ⟨#[]⟩, .string ⟨#[]⟩, .slice none 0 0] 81) = W3 at hBo hbo hzo ⊢
  obtain ⟨n, hn⟩ : ∃ n, W2.heap.size = n := ⟨_, rfl⟩
  have hdi : Dish b F A c T W 81 #[.int .i64 0, .int .i64 0, .string ⟨#[]⟩, .string ⟨#[]⟩, .slice none 0 0] W2.heap.size #[.int .i64 0, .int .i64 0, .string ⟨#[]⟩, .string ⟨#[]⟩, .slice none 0 0] W3 i e1 (d + 1) :=
    ⟨hs2.below hbo, hB2.later hbo hB2.lt, hBo, hbl, by omega⟩
  rw [hn] at hdi ⊢
  clear hs2 hB2 hBo hbo hzo hn hw12 hlr W1 W2
  have hB := hdi.sight.box
  have x2 := hB.at_ 2 _ rfl
  have HD := Lib.hid hdi
  clear hdi
  clear hB
  go_upto_if 12 with (fail)
  go_cut [] (fun wc => ExprHas b F A c T W R n (d + 1) wc)
  case first =>
    by_cases hz : e1 = 0
    · obtain ⟨f', rfl⟩ := HE1.out hz
      subst hz
      have hta := etail_any (IH.out f' rfl) W3 i (d + 1) HD.out.start (by omega) (by omega)
      have hst : St R (prThen (prPost (prExpr f')) fun x l => prSums (prPost (prExpr f')) l.length x l) T i 0 := HST.out
      have HTA := Lib.hid hta; have HS := Lib.hid hst
      clear hta hst
      clear HDN HST HE1
      go_wp2_with fail
      refine HTA.out.mono ?_
      rintro en W4 ⟨x, v, i4, e4, rfl, ⟨cs, rfl, hX⟩, hst4, hl⟩
      have hst5 : St R (prSums (prPost (prExpr f')) (T.drop i4).length x) T i4 e4 := (HS.out.then_ hst4).eq (fun _ => rfl)
      have hd4 := HD.out.go hl
      obtain ⟨A4, c4, rfl⟩ := ExR.form hX
      have hn3 := HD.out.out.lt
      have hle := HD.out.le
      have hf4 : Fit W n W4 (fresh W3.heap.size W4.heap.size) := fun k hk => ⟨by have := hk.1; omega, by have := hk.1; omega, hk.2⟩
      have ho := hd4.out
      have y0 := ho.at_ 0 _ rfl
      have y1 := ho.at_ 1 _ rfl
      have y2 := ho.at_ 2 _ rfl
      have y3 := ho.at_ 3 _ rfl
      have y4 := ho.at_ 4 _ rfl
      have g0 := ho.free 0
      have g1 := ho.free 1
      have g2 := ho.free 2
      have g3 := ho.free 3
      have g4 := ho.free 4
      have HD4 := Lib.hid hd4; have HX4 := Lib.hid hX; have HF4 := Lib.hid hf4; have HS5 := Lib.hid hst5
      clear hd4 hX hf4 hst5
      clear ho hl hst4 HS HTA HD
      go_wp2_with fail
      go_loopg [] (left T i4 e4) (fun gg wr => ∃ (m c3 : Nat) (A3 : Option Addr) (x : Ex) (j : Nat) (e3 : Int) (G : Foot), left T j e3 ≤ gg ∧ left T j e3 ≤ m + 1 ∧ Aside (St R (prSums (prPost (prExpr f')) m x) T j e3) ∧
        Aside (Dish b F A c T W 81 #[.int .i64 0, .int .i64 0, .string ⟨#[]⟩, .string ⟨#[]⟩, .slice none 0 0] n #[.int .i64 x.kind, .int .i64 x.n, .string x.of_, .string x.s, .slice A3 x.args.length c3] wr j e3 (d + 1)) ∧
        Aside (ExR wr G [.int .i64 x.kind, .int .i64 x.n, .string x.of_, .string x.s, .slice A3 x.args.length c3] x) ∧ Aside (Fit W n wr G))
      case atStart => exact ⟨_, c4, A4, x, i4, e4, _, Nat.le_refl _, left_drop, aside HS5.out, aside (HD4.out.set5 _ _ _ _ _), aside (ex_set5 HX4.out (fun h => by have h1 := h.1; omega) _ _ _ _ _), aside (HF4.out.set5 _ _ _ _ _)⟩
      case round =>
        clear HD4 HX4 HF4 HS5 y0 y1 y2 y3 y4 g0 g1 g2 g3 g4
        obtain ⟨m, c3, A3, x, j, e3, G, hg, hm, hst4, hd4, hX4, hF4⟩ := hrel
        obtain ⟨W5, rfl⟩ : ∃ W, W = wr := ⟨_, rfl⟩
        have htk := sees_any hd4.out.start sPlus
        have HTK := Lib.hid htk
        clear htk
        go_wp2_with fail
        refine HTK.out.mono ?_
        rintro en W6 ⟨z, j6, rfl, hz, hl6⟩
        have hd6 := hd4.out.go hl6
        have hX6 := ex_grew hX4.out hF4.out hbl hl6.grew
        have hF6 := hF4.out.grew hl6.grew
        cases z with
        | false =>
          obtain ⟨rfl, hst6⟩ := st_sums_stop hst4.out hz
          have HST6 := Lib.hid hst6; have HD6 := Lib.hid hd6; have HXR := Lib.hid hX6; have HF6 := Lib.hid hF6
          clear hst6 hd6 hX6 hF6
          clear hl6 hz HTK hX4 hd4 hF4 hst4
          go_wp2_with fail
          go_meet
          exact ⟨x, j6, e3, A3, c3, G, HD6.out, HXR.out, HF6.out, HST6.out⟩
        | true =>
          obtain ⟨m', rfl, hst6⟩ := st_sums_go hst4.out hz hm
          obtain ⟨rfl, hlt⟩ := left_seen hz
          have hcx := etail_any (IH.out f' rfl) W6 j6 (d + 1) hd6.start (by omega) (by omega)
          have HST6 := Lib.hid hst6; have HCX := Lib.hid hcx; have HD6 := Lib.hid hd6; have HXR := Lib.hid hX6; have HF6 := Lib.hid hF6
          clear hst6 hcx hd6 hX6 hF6
          clear hl6 HTK hX4 hd4 hF4 hst4 hz
          go_wp2_with fail
          refine HCX.out.mono ?_
          rintro en W8 ⟨y, v, j8, e8, rfl, ⟨cs, rfl, hY⟩, hst8, hl8⟩
          have hs8 := left_short (short_post (short_expr f')) hst8
          have hst9 : St R (prSums (prPost (prExpr f')) m' (sumOf x y)) T j8 e8 := HST6.out.then_ hst8
          have hd8 := HD6.out.go hl8
          have hq8 := hd8.out.lt
          obtain ⟨A6, c6, rfl⟩ := ExR.form hY
          have hw8 := hl8.size
          have hg8 : Grew b W6 W8 (some b) := hl8.grew
          have HST9 := Lib.hid hst9; have HD8 := Lib.hid hd8; have HYR := Lib.hid hY; have HG8 := Lib.hid hg8
          clear hst9 hd8 hY hg8
          clear hst8 HCX HST6 hl8
          go_upto_region 7 with fail
          have hBy := Box.made W8 81 #[.int .i64 y.kind, .int .i64 y.n, .string y.of_, .string y.s, .slice A6 y.args.length c6]
          have hby : Below W8.heap.size W8 (W8.alloc (.cells #[.int .i64 y.kind, .int .i64 y.n, .string y.of_, .string y.s, .slice A6 y.args.length c6] 81)) := by go_grown
          have hzy : (W8.alloc (.cells #[.int .i64 y.kind, .int .i64 y.n, .string y.of_, .string y.s, .slice A6 y.args.length c6] 81)).heap.size = W8.heap.size + 1 := by simp
          generalize W8.alloc (.cells #[.int .i64 y.kind, .int .i64 y.n, .string y.of_, .string y.s, .slice A6 y.args.length c6] 81) = W9 at hBy hby hzy ⊢
          have hd9 := HD8.out.below hby
          have hY9 : ExR W9 (fresh W6.heap.size W9.heap.size) _ y := ExR.stays.wider (ExR.stays.later HYR.out hby fresh_lt) (fresh_up (Nat.le_refl _) hby.size)
          have hg9 : Grew b W6 W9 (some b) := HG8.out.trans_ (Grew.of_below hby some_le)
          have hw9 := hby.size
          have ho9 := hd9.out
          have hq9 : W9.heap.size ≠ n := Nat.ne_of_gt ho9.lt
          have t0 := fun o => (hd9.alloc o).out.at_ 0 _ rfl
          have t1 := fun o => (hd9.alloc o).out.at_ 1 _ rfl
          have t2 := fun o => (hd9.alloc o).out.at_ 2 _ rfl
          have t3 := fun o => (hd9.alloc o).out.at_ 3 _ rfl
          have t4 := fun o => (hd9.alloc o).out.at_ 4 _ rfl
          have k0 := fun o => (hd9.alloc o).out.free 0
          have k1 := fun o => (hd9.alloc o).out.free 1
          have k2 := fun o => (hd9.alloc o).out.free 2
          have k3 := fun o => (hd9.alloc o).out.free 3
          have k4 := fun o => (hd9.alloc o).out.free 4
          have x0 := ho9.at_ 0 _ rfl
          have x1 := ho9.at_ 1 _ rfl
          have x2 := ho9.at_ 2 _ rfl
          have x3 := ho9.at_ 3 _ rfl
          have x4 := ho9.at_ 4 _ rfl
          have y0 := hBy.at_ 0 _ rfl
          have y1 := hBy.at_ 1 _ rfl
          have y2 := hBy.at_ 2 _ rfl
          have y3 := hBy.at_ 3 _ rfl
          have y4 := hBy.at_ 4 _ rfl
          have HD9 := Lib.hid hd9; have HY9 := Lib.hid hY9; have HG9 := Lib.hid hg9
          clear hd9 hY9 hg9
          clear HD8 HYR HG8 ho9 hby hzy hBy
          go_wp2_with fail
          go_roundg (left T j8 e8)
          case measure => omega
          case rel =>
            have hq5 := HD6.out.out.lt
            have hX9 := rex_two 81 HXR.out HF6.out HG9.out hbl HY9.out (k := 5) rex_I64.2.2.2.2.2.1
            have hF9 := HF6.out.two HG9.out.size hq5 HD6.out.le (.cells (([.int .i64 x.kind, .int .i64 x.n, .string x.of_, .string x.s, .slice A3 x.args.length c3] : List Value) ++ ([.int .i64 y.kind, .int .i64 y.n, .string y.of_, .string y.s, .slice A6 y.args.length c6] : List Value)).toArray 81)
            have hnq : ¬ two_ G W6.heap.size W9.heap.size n := fun h => (hF9 _ h).2.1 rfl
            exact ⟨m', 2, some ⟨W9.heap.size, 0, none⟩, sumOf x y, j8, e8, two_ G W6.heap.size W9.heap.size, Nat.le_refl _, by omega, aside HST9.out, aside ((HD9.out.alloc _).set5 _ _ _ _ _), aside (ex_set5 hX9 hnq _ _ _ _ _), aside (hF9.set5 _ _ _ _ _)⟩
    · have hez : (e1 == 0) = false := by simp [hz]
      have HZ := Lib.hid hz
      clear hz
      go_wp2_with fail
      go_meet
      exact ⟨.mk 0 0 mt mt [], i, e1, none, 0, none_, HD.out, rex_plain _ rex_I64.1 rex_I64.1 mt_ok mt_ok, fun k hk => hk.elim, HST.out.stuck HZ.out⟩
  case rest =>
    obtain ⟨x, i', e', A2, cc, G, hdi, hX, hF, hst⟩ := hcut
    have hB := hdi.sight.box
    have hws := hdi.sight.size
    have hle := hdi.sight.le
    have x3 := hB.at_ 3 _ rfl
    have g3 := hB.free 3
    have hz : d + 1 - 1 = d := by omega
    obtain ⟨w9, rfl⟩ : ∃ X, X = wc := ⟨_, rfl⟩
    have HD9 := Lib.hid hdi; have HX := Lib.hid hX; have HST9 := Lib.hid hst; have HF9 := Lib.hid hF
    clear hdi hX hst hF
    clear hB
    go_upto_region 9 with fail
    obtain ⟨w10, hw10⟩ : ∃ X, X = w9.setCell ⟨b, 3, none⟩ (.int .i64 d) := ⟨_, rfl⟩
    have hr := HD9.out.res.far (p := ⟨b, 3, none⟩) HD9.out.ne.2.2 (.int .i64 d)
    have ho := HD9.out.out.far (p := ⟨b, 3, none⟩) HD9.out.ne.2.1 (.int .i64 d)
    have hs := HD9.out.sight.put (e' := e') (d' := d) (i' := i') 3 (.int .i64 d) hle (by simp)
    have hX10 : ExR w10 G [.int .i64 x.kind, .int .i64 x.n, .string x.of_, .string x.s, .slice A2 x.args.length cc] x := by
      rw [hw10]
      exact ExR.stays _ _ _ _ _ _ HX.out (fun _ h => h) ((Keeps.refl _ _).setCell (fun hb => by have h1 : W.heap.size < b := (HF9.out _ hb).1; omega) _)
    have hF10 : ∀ k, G k → W.heap.size < k ∧ k < w10.heap.size := fun k hk => by
      rw [hw10, size_set]
      exact ⟨(HF9.out k hk).1, (HF9.out k hk).2.2⟩
    rw [← hw10] at hr ho hs ⊢
    clear hw10 x3 g3 hz HX HD9
    have r0 := hr.at_ 0 _ rfl
    have r1 := hr.at_ 1 _ rfl
    have r2 := hr.at_ 2 _ rfl
    have r3 := hr.at_ 3 _ rfl
    have r4 := hr.at_ 4 _ rfl
    have q0 := hr.free 0
    have q1 := hr.free 1
    have q2 := hr.free 2
    have q3 := hr.free 3
    have q4 := hr.free 4
    have y0 := ho.at_ 0 _ rfl
    have y1 := ho.at_ 1 _ rfl
    have y2 := ho.at_ 2 _ rfl
    have y3 := ho.at_ 3 _ rfl
    have y4 := ho.at_ 4 _ rfl
    have HS := Lib.hid hs; have HX := Lib.hid hX10; have HF := Lib.hid hF10
    clear hs hX10 hF10
    clear hr ho
    go_wp2_with fail
    refine bodyPost_ret (v := .agg #[.int .i64 x.kind, .int .i64 x.n, .string x.of_, .string x.s, .slice A2 x.args.length cc]) (by simp [results, Tryz.results209, go_sem, r0, r1, r2, r3, r4]) rfl ?_
    exact ⟨x, _, i', e', rfl, ⟨_, rfl, ex_res5 HX.out HF.out _ _ _ _ _⟩, HST9.out, HS.out.res5 hbl _ _ _ _ _⟩

theorem eexpr_any {b : Nat} {F : Foot} {A : Option Addr} {c : Nat} {T : List Token} : ∀ f : Nat, EyeGives b F A c T f := by
  intro f
  induction f with
  | zero => exact fun W i e d h hd h0 => eexpr_step h hd h0 (fun f' h => by cases h)
  | succ f ih => exact fun W i e d h hd h0 => eexpr_step h hd h0 (fun f' hf => by cases hf; exact ih)

end Go.Proofs.YtjaladhdnbhliaaGreatDoor

/- The reference's reader of tokens: a function, (*eye).function. -/
namespace Go.Proofs.YtjaladhdnbhliaaGreatDoor
open Go.RowKit Go.Shelf

section
variable {b : Nat} {F : Foot} {A : Option Addr} {c : Nat} {T : List Token} {W W' W2 : World} {i : Nat} {e d : Int} {rt : TypeId} {rc cs : Array Value} {n : Nat}
theorem Dish.setR (h : Dish b F A c T W rt rc n cs W' i e d) (j : Nat) (u : Value) : Dish b F A c T W rt (rc.setIfInBounds j u) n cs (W'.setCell ⟨W.heap.size, j, none⟩ u) i e d :=
  ⟨h.sight.set (p := ⟨W.heap.size, j, none⟩) (Nat.le_refl _) h.lt u, h.res.put j u, h.out.far (p := ⟨W.heap.size, j, none⟩) (by have := h.le; show n ≠ W.heap.size; omega) u, h.lt, h.le⟩
theorem Dish.grown (h : Dish b F A c T W rt rc n cs W' i e d) {base : Nat} {row : Option Nat} (hg : Grew base W' W2 row) (hq : n < base) : Dish b F A c T W rt rc n cs W2 i e d :=
  ⟨h.sight.then_ ⟨hg.os, hg.tape, hg.output, hg.size, hg.block, fun k hk => by have := hg.low k hk; have := h.le; omega⟩ h.lt, hg.box h.res (by have := h.le; omega), hg.box h.out hq, h.lt, h.le⟩
end
section
variable {α β : Type} {R : Except Int (β × List Token)} {T : List Token} {i i' : Nat} {e e' : Int} {m : Nat} {ps : List Field} {K : List Field → Pr β} {x : ByteArray}
theorem prIf_then {α β : Type} (s : ByteArray) (p q : Pr α) (f : α → Pr β) (l : List Token) : prThen (prIf s p q) f l = prIf s (prThen p f) (prThen q f) l := by
  unfold prThen prIf
  cases prTake s l with
  | none => rfl
  | some r => rfl
theorem left_name (h : St (Rs prName T i e) (prPure x) T i' e') : left T i' e' + 1 ≤ left T i e ∨ left T i' e' = 0 := by
  unfold Rs at h
  rcases h with ⟨rfl, h⟩ | ⟨h0, h⟩
  · by_cases he : e = 0
    · subst he
      rw [if_pos rfl] at h
      left
      rw [left_ok, left_ok]
      cases hl : T.drop i with
      | nil => rw [hl] at h; cases h
      | cons t u =>
        rw [hl, prName_cons] at h
        split at h
        · have h2 := congrArg (fun r => match r with | Except.ok (_, l) => List.length l | _ => 0) h
          have h3 : u.length = (T.drop i').length := h2
          rw [List.length_cons]; omega
        · cases h
    · rw [if_neg he] at h; cases h
  · right; unfold left; rw [if_neg h0]
theorem st_pars_stop (h : St R (prThen (prPars m ps) K) T i 0) (hs : Seen sRp T i 0 true i') (hm : left T i 0 ≤ m) : St R (K ps) T i' 0 := by
  rcases hs with ⟨h1, _⟩ | ⟨_, _, hn⟩
  · cases h1
  · rw [left_ok] at hm
    obtain ⟨m', rfl⟩ : ∃ m', m = m' + 1 := ⟨m - 1, by omega⟩
    exact h.eq (fun _ => prThen_ok (pars_stop hn))
theorem st_pars_go (h : St R (prThen (prPars m ps) K) T i 0) (hs : Seen sRp T i 0 false i') (hm : left T i 0 ≤ m) :
    i' = i ∧ ∃ m', m = m' + 1 ∧ St R (prThen (if ps.length = 0 then prPure () else prMust sComma) fun _ => prThen prName fun pn => prThen (prMust sColon) fun _ => prThen (prKind 40) fun t => prThen (prPars m' (ps ++ [⟨pn, t⟩])) K) T i 0 := by
  rcases hs with ⟨_, rfl, hn⟩ | ⟨h1, _⟩
  · rw [left_ok] at hm
    obtain ⟨m', rfl⟩ : ∃ m', m = m' + 1 := ⟨m - 1, by omega⟩
    refine ⟨rfl, m', rfl, h.eq (fun h0 => ?_)⟩
    have h1 := pars_go (m := m') (ps := ps) (hn h0)
    have h2 : prThen (prThen (if ps.length = 0 then prPure () else prMust sComma) (fun _ => prThen prPar fun p => prPars m' (ps ++ [p]))) K = prThen (if ps.length = 0 then prPure () else prMust sComma) fun _ => prThen prName fun pn => prThen (prMust sColon) fun _ => prThen (prKind 40) fun t => prThen (prPars m' (ps ++ [⟨pn, t⟩])) K := by
      rw [prThen_assoc]
      congr 1
      funext _
      rw [prThen_assoc, par_go]
    rw [← h2]
    unfold prThen at h1 ⊢
    rw [h1]
  · cases h1
end
/-- What holds behind the parameters. -/
def FunHas (b : Nat) (F : Foot) (A : Option Addr) (c : Nat) (T : List Token) (W : World) (R : Except Int (Func × List Token)) (n v : ByteArray) (q B : Nat) (w' : World) : Prop :=
  ∃ (ps : List Field) (A2 : Option Addr) (c2 i : Nat) (e : Int) (G : Foot), ps.length ≤ 202 ∧ St R (prRest n v ps) T i e ∧ Dish b F A c T W 83 #[.string ⟨#[]⟩, .string ⟨#[]⟩, .slice none 0 0, .int .i64 0, .string ⟨#[]⟩, .string ⟨#[]⟩, .slice none 0 0, .int .i64 0, .int .i64 0, .string ⟨#[]⟩, .string ⟨#[]⟩, .slice none 0 0] q #[.string n, .string v, .slice A2 ps.length c2, .int .i64 0, .string ⟨#[]⟩, .string ⟨#[]⟩, .slice none 0 0, .int .i64 0, .int .i64 0, .string ⟨#[]⟩, .string ⟨#[]⟩, .slice none 0 0] w' i e 0 ∧
    Owns FieldR 5 78 B w' G (.slice A2 ps.length c2) ps ∧ (∀ k, G k → B ≤ k) ∧ B ≤ w'.heap.size

set_option maxRecDepth 100000 in
set_option maxHeartbeats 8000000 in
theorem efun_any {b : Nat} {F : Foot} {A : Option Addr} {c : Nat} {T : List Token} (W : World) (i : Nat) (e : Int) (h : Sight b F A c T W W i e 0) :
    Calls Tryz.prog 145 #[.pointer (some ⟨b, 0, none⟩)] W (GaveEye (AggV FuncR) b F A c T W prFun i e 0) := by
  have hst : St (Rs prFun T i e) prFun T i e := St.start _
  obtain ⟨R, hR⟩ : ∃ R, Rs prFun T i e = R := ⟨_, rfl⟩
  unfold GaveEye
  rw [hR] at hst ⊢
  rw [prFun_eq] at hst
  have hbl := h.lt
  have h200 := h.len
  have hnm := fun U (hU : Below W.heap.size W U) => eident_any (h.below hU).start
  have HST := Lib.hid hst; have HH := Lib.hid h; have HNM := Lib.hid hnm
  clear hst h hnm
  clear hR
  go_enter Tryz.func145, Tryz.ntmps145
  go_upto_region 1 with fail
  have hBr := Box.made W 83 #[.string ⟨#[]⟩, .string ⟨#[]⟩, .slice none 0 0, .int .i64 0, .string ⟨#[]⟩, .string ⟨#[]⟩, .slice none 0 0, .int .i64 0, .int .i64 0, .string ⟨#[]⟩, .string ⟨#[]⟩, .slice none 0 0]
  have hbr : Below W.heap.size W (W.alloc (.cells #[.string ⟨#[]⟩, .string ⟨#[]⟩, .slice none 0 0, .int .i64 0, .string ⟨#[]⟩, .string ⟨#[]⟩, .slice none 0 0, .int .i64 0, .int .i64 0, .string ⟨#[]⟩, .string ⟨#[]⟩, .slice none 0 0] 83)) := by go_grown
  have hzr : (W.alloc (.cells #[.string ⟨#[]⟩, .string ⟨#[]⟩, .slice none 0 0, .int .i64 0, .string ⟨#[]⟩, .string ⟨#[]⟩, .slice none 0 0, .int .i64 0, .int .i64 0, .string ⟨#[]⟩, .string ⟨#[]⟩, .slice none 0 0] 83)).heap.size = W.heap.size + 1 := by simp
  generalize W.alloc (.cells #[.string ⟨#[]⟩, .string ⟨#[]⟩, .slice none 0 0, .int .i64 0, .string ⟨#[]⟩, .string ⟨#[]⟩, .slice none 0 0, .int .i64 0, .int .i64 0, .string ⟨#[]⟩, .string ⟨#[]⟩, .slice none 0 0] 83) = W1 at hBr hbr hzr ⊢
  have hl1 := HH.out.below hbr
  have hrl := hBr.lt
  have HL1 := Lib.hid hl1; have HB1 := Lib.hid hBr; have Hbr := Lib.hid hbr
  clear hl1 hBr hbr
  clear hzr
  go_wp2_with fail
  refine (HNM.out _ Hbr.out).mono ?_
  rintro en W2 ⟨n, _, i2, e2, rfl, ⟨rfl, hno⟩, hst2, hl2⟩
  have hst3 : St R (prThen prVar (prTail n)) T i2 e2 := HST.out.then_ hst2
  have hl2' := HL1.out.trans hl2
  have hb2 := hl2.grew.box_ HB1.out (by omega)
  have hw2 := hl2.size
  have HS3 := Lib.hid hst3; have HL2 := Lib.hid hl2'; have HB2 := Lib.hid hb2; have HNO := Lib.hid hno
  clear hst3 hl2' hb2 hno
  clear hl2 hst2 HB1 HL1 HNM HST
  go_upto_region 2 with fail
  have hBf := Box.made W2 83 #[.string n, .string ⟨#[]⟩, .slice none 0 0, .int .i64 0, .string ⟨#[]⟩, .string ⟨#[]⟩, .slice none 0 0, .int .i64 0, .int .i64 0, .string ⟨#[]⟩, .string ⟨#[]⟩, .slice none 0 0]
  have hbf : Below W2.heap.size W2 (W2.alloc (.cells #[.string n, .string ⟨#[]⟩, .slice none 0 0, .int .i64 0, .string ⟨#[]⟩, .string ⟨#[]⟩, .slice none 0 0, .int .i64 0, .int .i64 0, .string ⟨#[]⟩, .string ⟨#[]⟩, .slice none 0 0] 83)) := by go_grown
  have hzf : (W2.alloc (.cells #[.string n, .string ⟨#[]⟩, .slice none 0 0, .int .i64 0, .string ⟨#[]⟩, .string ⟨#[]⟩, .slice none 0 0, .int .i64 0, .int .i64 0, .string ⟨#[]⟩, .string ⟨#[]⟩, .slice none 0 0] 83)).heap.size = W2.heap.size + 1 := by simp
  generalize W2.alloc (.cells #[.string n, .string ⟨#[]⟩, .slice none 0 0, .int .i64 0, .string ⟨#[]⟩, .string ⟨#[]⟩, .slice none 0 0, .int .i64 0, .int .i64 0, .string ⟨#[]⟩, .string ⟨#[]⟩, .slice none 0 0] 83) = W3 at hBf hbf hzf ⊢
  have hd3 : Dish b F A c T W 83 #[.string ⟨#[]⟩, .string ⟨#[]⟩, .slice none 0 0, .int .i64 0, .string ⟨#[]⟩, .string ⟨#[]⟩, .slice none 0 0, .int .i64 0, .int .i64 0, .string ⟨#[]⟩, .string ⟨#[]⟩, .slice none 0 0] W2.heap.size #[.string n, .string ⟨#[]⟩, .slice none 0 0, .int .i64 0, .string ⟨#[]⟩, .string ⟨#[]⟩, .slice none 0 0, .int .i64 0, .int .i64 0, .string ⟨#[]⟩, .string ⟨#[]⟩, .slice none 0 0] W3 i2 e2 0 :=
    ⟨HL2.out.below hbf, HB2.out.later hbf HB2.out.lt, hBf, hbl, by omega⟩
  obtain ⟨q, hqe⟩ : ∃ q, W2.heap.size = q := ⟨_, rfl⟩
  rw [hqe] at hd3 ⊢
  have htk := sees_any hd3.start sLt
  have HD3 := Lib.hid hd3; have HTK := Lib.hid htk
  clear hd3 htk
  clear hbf hzf hBf HB2 HL2 hw2 hqe
  go_wp2_with fail
  refine HTK.out.mono ?_
  rintro en W4 ⟨z, i4, rfl, hz, hl4⟩
  have hd4 := HD3.out.go hl4
  have HD4 := Lib.hid hd4
  clear hd4
  clear hl4 HD3
  go_upto_if 9 with (fail)
  go_cut [] (fun wc => ∃ (i' : Nat) (e' : Int) (v : ByteArray), okS v ∧ Aside (St R (prTail n v) T i' e') ∧ Aside (Dish b F A c T W 83 #[.string ⟨#[]⟩, .string ⟨#[]⟩, .slice none 0 0, .int .i64 0, .string ⟨#[]⟩, .string ⟨#[]⟩, .slice none 0 0, .int .i64 0, .int .i64 0, .string ⟨#[]⟩, .string ⟨#[]⟩, .slice none 0 0] q #[.string n, .string v, .slice none 0 0, .int .i64 0, .string ⟨#[]⟩, .string ⟨#[]⟩, .slice none 0 0, .int .i64 0, .int .i64 0, .string ⟨#[]⟩, .string ⟨#[]⟩, .slice none 0 0] wc i' e' 0))
  case first =>
    cases z with
    | false =>
      obtain ⟨rfl, hst4⟩ := (show St R (prIf sLt (prThen (prThen prName fun v => prThen (prMust sGt) fun _ => prPure v) (prTail n)) (prThen (prPure mt) (prTail n))) T i2 e2 from HS3.out.eq (fun _ => prIf_then _ _ _ _ _)).no hz
      have HS4 := Lib.hid hst4
      clear hst4
      clear hz
      go_wp2_with fail
      go_meet
      exact ⟨i4, e2, mt, mt_ok, aside (HS4.out.eq (fun _ => rfl)), aside HD4.out⟩
    | true =>
      have hst4 := (show St R (prIf sLt (prThen (prThen prName fun v => prThen (prMust sGt) fun _ => prPure v) (prTail n)) (prThen (prPure mt) (prTail n))) T i2 e2 from HS3.out.eq (fun _ => prIf_then _ _ _ _ _)).yes hz
      rw [prThen_assoc] at hst4
      have hnm := eident_any HD4.out.start
      have HS4 := Lib.hid hst4; have HNM := Lib.hid hnm
      clear hst4 hnm
      clear hz
      go_wp2_with fail
      refine HNM.out.mono ?_
      rintro en W5 ⟨v, _, i5, e5, rfl, ⟨rfl, hvo⟩, hst5, hl5⟩
      have hst6 : St R (prThen (prThen (prMust sGt) fun _ => prPure v) (prTail n)) T i5 e5 := HS4.out.then_ hst5
      rw [prThen_assoc] at hst6
      have hd5 := HD4.out.go hl5
      have ho5 := hd5.out
      have x1 := ho5.at_ 1 _ rfl
      have g1 := ho5.free 1
      have HD5 := Lib.hid hd5; have HS6 := Lib.hid hst6; have HVO := Lib.hid hvo
      clear hd5 hst6 hvo
      clear hl5 ho5 hst5
      go_upto_region 4 with fail
      have hd6 := HD5.out.set 1 (.string v)
      simp only [List.setIfInBounds_toArray, List.set_cons_zero, List.set_cons_succ] at hd6
      generalize W5.setCell ⟨q, 1, none⟩ (.string v) = W6 at hd6 ⊢
      have hms := wants_any hd6.start sGt
      have HD6 := Lib.hid hd6; have HMS := Lib.hid hms
      clear hd6 hms
      clear x1 g1
      go_wp2_with fail
      refine HMS.out.mono ?_
      rintro en W7 ⟨_, _, i7, e7, rfl, rfl, hst7, hl7⟩
      have hst8 : St R (prThen (prPure v) (prTail n)) T i7 e7 := HS6.out.then_ hst7
      have hd7 := HD6.out.go hl7
      have HS8 := Lib.hid hst8; have HD7 := Lib.hid hd7
      clear hst8 hd7
      clear hl7 hst7
      go_wp2_with fail
      go_meet
      exact ⟨i7, e7, v, HVO.out, aside (HS8.out.eq (fun _ => rfl)), aside HD7.out⟩
  case rest =>
  obtain ⟨i5, e5, v, hvo, hx5, hd5⟩ := hcut
  obtain ⟨W5, rfl⟩ : ∃ W, W = wc := ⟨_, rfl⟩
  have hms := wants_any hd5.out.start sLp
  have HMS := Lib.hid hms; have HVO := Lib.hid hvo
  clear hms hvo
  clear HD4 HTK HS3
  go_wp2_with fail
  refine HMS.out.mono ?_
  rintro en W6 ⟨_, _, i6, e6, rfl, rfl, hst6, hl6⟩
  have hst7 : St R (prThen (prPars ((T.drop i6).length + 1) []) (prRest n v)) T i6 e6 := (hx5.out.then_ hst6).eq (fun _ => rfl)
  have hd6 := hd5.out.go hl6
  have hq6 := hd6.out.lt
  obtain ⟨B, hB⟩ : ∃ B, W6.heap.size = B := ⟨_, rfl⟩
  have HS7 := Lib.hid hst7; have HD6 := Lib.hid hd6; have HBE := Lib.hid hB
  clear hst7 hd6 hB
  clear hl6 hst6 hx5 hd5 HMS
  go_upto_block 0 with fail
  go_cut [] (fun wc => FunHas b F A c T W R n v q B wc)
  case first =>
    go_wp2_with fail
    go_loopg [] (left T i6 e6) (fun gg wr => ∃ (m c2 : Nat) (A2 : Option Addr) (ps : List Field) (j : Nat) (e7 : Int) (G : Foot), left T j e7 ≤ gg ∧ left T j e7 ≤ m ∧ ps.length + left T j e7 ≤ 202 ∧ Aside (St R (prThen (prPars m ps) (prRest n v)) T j e7) ∧
      Aside (Dish b F A c T W 83 #[.string ⟨#[]⟩, .string ⟨#[]⟩, .slice none 0 0, .int .i64 0, .string ⟨#[]⟩, .string ⟨#[]⟩, .slice none 0 0, .int .i64 0, .int .i64 0, .string ⟨#[]⟩, .string ⟨#[]⟩, .slice none 0 0] q #[.string n, .string v, .slice A2 ps.length c2, .int .i64 0, .string ⟨#[]⟩, .string ⟨#[]⟩, .slice none 0 0, .int .i64 0, .int .i64 0, .string ⟨#[]⟩, .string ⟨#[]⟩, .slice none 0 0] wr j e7 0) ∧
      Aside (Owns FieldR 5 78 B wr G (.slice A2 ps.length c2) ps) ∧ Aside (∀ k, G k → B ≤ k) ∧ Aside (B ≤ wr.heap.size))
    case atStart => exact ⟨_, 0, none, [], i6, e6, none_, Nat.le_refl _, left_drop, (by have : left T i6 e6 ≤ T.length + 1 := left_le; simp; omega), aside HS7.out, aside HD6.out, aside Owns.nil_, aside (fun k hk => hk.elim), aside (by have := HBE.out; omega)⟩
    case round =>
      clear HD6 HS7
      obtain ⟨m, c2, A2, ps, j, e7, G, hg, hm, h201, hst7, hd7, hO7, hG7, hB7⟩ := hrel
      obtain ⟨W7, rfl⟩ : ∃ W, W = wr := ⟨_, rfl⟩
      have hB7 := hB7.out
      have hbB : b < B := by have := HBE.out; have := hd7.out.lt; have := hd7.out.le; omega
      have hqB : q < B := by have := HBE.out; omega
      have he7 := hd7.out.sight.box
      have x2 := he7.at_ 2 _ rfl
      clear he7
      by_cases hz7 : e7 = 0
      · subst hz7
        have htk := sees_any hd7.out.start sRp
        have HTK := Lib.hid htk
        clear htk
        go_wp2_with fail
        refine HTK.out.mono ?_
        rintro en W8 ⟨z, i8, rfl, hz, hl8⟩
        have hd8 := hd7.out.go hl8
        have hO8 := hO7.out.read FieldR.stays hl8.grew hbB hG7.out
        have hB8 := hl8.size
        cases z with
        | true =>
          have hst8 := st_pars_stop hst7.out hz hm
          have HS8 := Lib.hid hst8; have HD8 := Lib.hid hd8; have HO8 := Lib.hid hO8
          clear hst8 hd8 hO8
          clear hl8 hd7 hO7 hst7 hz HTK
          go_wp2_with fail
          go_meet
          exact ⟨ps, A2, c2, i8, 0, G, by omega, HS8.out, HD8.out, HO8.out, hG7.out, by omega⟩
        | false =>
          obtain ⟨rfl, m', rfl, hst8⟩ := st_pars_go hst7.out hz hm
          have ho8 := hd8.out
          have hlp : 1 ≤ left T i8 0 := by rw [left_ok]; omega
          clear x2
          have x2 := ho8.at_ 2 _ rfl
          have HS8 := Lib.hid hst8; have HD8 := Lib.hid hd8; have HO8 := Lib.hid hO8; have HG8 := Lib.hid hG7
          clear hst8 hd8 hO8 hG7
          clear hl8 hd7 hO7 hst7 hz HTK ho8
          go_upto_if 30 with (fail)
          go_cut [] (fun wc => ∃ (j' : Nat) (e' : Int), left T j' e' ≤ left T i8 0 ∧ Aside (St R (prThen prName fun pn => prThen (prMust sColon) fun _ => prThen (prKind 40) fun t => prThen (prPars m' (ps ++ [⟨pn, t⟩])) (prRest n v)) T j' e') ∧
            Aside (Dish b F A c T W 83 #[.string ⟨#[]⟩, .string ⟨#[]⟩, .slice none 0 0, .int .i64 0, .string ⟨#[]⟩, .string ⟨#[]⟩, .slice none 0 0, .int .i64 0, .int .i64 0, .string ⟨#[]⟩, .string ⟨#[]⟩, .slice none 0 0] q #[.string n, .string v, .slice A2 ps.length c2, .int .i64 0, .string ⟨#[]⟩, .string ⟨#[]⟩, .slice none 0 0, .int .i64 0, .int .i64 0, .string ⟨#[]⟩, .string ⟨#[]⟩, .slice none 0 0] wc j' e' 0) ∧ Aside (Owns FieldR 5 78 B wc G (.slice A2 ps.length c2) ps) ∧ Aside (B ≤ wc.heap.size))
          case first =>
            by_cases hp : ps.length = 0
            · have hst9 := HS8.out
              rw [if_pos hp] at hst9
              have hpz : ¬ ((0 : Int) < (ps.length : Int)) := by omega
              have hpz2 : (decide ((0 : Int) < (ps.length : Int))) = false := decide_eq_false hpz
              have HS9 := Lib.hid hst9
              clear hst9
              clear hp
              go_wp2_with fail
              go_meet
              exact ⟨i8, 0, Nat.le_refl _, aside (HS9.out.eq (fun _ => rfl)), aside HD8.out, aside HO8.out, aside (by omega)⟩
            · have hpz : (0 : Int) < (ps.length : Int) := by omega
              have hst9 := HS8.out
              rw [if_neg hp] at hst9
              have hms := wants_any HD8.out.start sComma
              have HS9 := Lib.hid hst9; have HMS := Lib.hid hms
              clear hst9 hms
              clear hp
              go_wp2_with fail
              refine HMS.out.mono ?_
              rintro en W9 ⟨_, _, j9, e9, rfl, rfl, hst10, hl9⟩
              have hs9 := left_short short_must hst10
              have hst11 := HS9.out.then_ hst10
              have hd9 := HD8.out.go hl9
              have hO9 := HO8.out.read FieldR.stays hl9.grew hbB HG8.out
              have hb9 := hl9.size
              have HS11 := Lib.hid hst11; have HD9 := Lib.hid hd9; have HO9 := Lib.hid hO9
              clear hst11 hd9 hO9
              clear hl9 hst10
              go_wp2_with fail
              go_meet
              exact ⟨j9, e9, hs9, aside HS11.out, aside HD9.out, aside HO9.out, aside (by omega)⟩
          case rest =>
          obtain ⟨j9, e9, hle9, hst9, hd9, hO9, hB9⟩ := hcut
          obtain ⟨W9, rfl⟩ : ∃ W, W = wc := ⟨_, rfl⟩
          have hB9 := hB9.out
          have hnm := eident_any hd9.out.start
          have HS9 := Lib.hid hst9; have HD9 := Lib.hid hd9; have HO9 := Lib.hid hO9; have HNM := Lib.hid hnm
          clear hst9 hd9 hO9 hnm
          clear x2 HS8 HD8 HO8
          go_wp2_with fail
          refine HNM.out.mono ?_
          rintro en W10 ⟨pn, _, j10, e10, rfl, ⟨rfl, hpo⟩, hst10, hl10⟩
          have hs10 := left_name hst10
          have hst11 : St R (prThen (prMust sColon) fun _ => prThen (prKind 40) fun t => prThen (prPars m' (ps ++ [⟨pn, t⟩])) (prRest n v)) T j10 e10 := HS9.out.out.then_ hst10
          have hd10 := HD9.out.out.go hl10
          have hO10 := HO9.out.out.read FieldR.stays hl10.grew hbB HG8.out
          have hB10 := hl10.size
          have hfoot : ∀ k, G k → k < W10.heap.size := fun k hk => (hO10.foot hk).1
          have hrow : ∀ k, (Value.slice A2 ps.length c2).ownBlock = some k → k < W10.heap.size := fun k hk => (hO10.row hk).2
          have HS11 := Lib.hid hst11; have HD10 := Lib.hid hd10; have HO10 := Lib.hid hO10; have HPO := Lib.hid hpo; have HFOOT := Lib.hid hfoot; have HROW := Lib.hid hrow
          clear hst11 hd10 hO10 hpo hfoot hrow
          clear hl10 hst10 HNM HD9 HO9 HS9
          go_upto_region 10 with fail
          have hBp := Box.made W10 78 #[.string pn, .int .i64 0, .string ⟨#[]⟩, .string ⟨#[]⟩, .slice none 0 0]
          have hbp : Below W10.heap.size W10 (W10.alloc (.cells #[.string pn, .int .i64 0, .string ⟨#[]⟩, .string ⟨#[]⟩, .slice none 0 0] 78)) := by go_grown
          have hzp : (W10.alloc (.cells #[.string pn, .int .i64 0, .string ⟨#[]⟩, .string ⟨#[]⟩, .slice none 0 0] 78)).heap.size = W10.heap.size + 1 := by simp
          generalize W10.alloc (.cells #[.string pn, .int .i64 0, .string ⟨#[]⟩, .string ⟨#[]⟩, .slice none 0 0] 78) = W11 at hBp hbp hzp ⊢
          have hd11 := HD10.out.below hbp
          have hO11 := HO10.out.below FieldR.stays hbp
          have hms := wants_any hd11.start sColon
          have hB11 := hbp.size
          obtain ⟨pq, hpq⟩ : ∃ z, W10.heap.size = z := ⟨_, rfl⟩
          rw [hpq] at hBp ⊢
          have hpqb : pq ≠ b := by omega
          have hpqq : pq ≠ q := by omega
          have hqpq : q ≠ pq := by omega
          have hpl := hBp.lt
          have HD11 := Lib.hid hd11; have HO11 := Lib.hid hO11; have HMS := Lib.hid hms; have HP11 := Lib.hid hBp; have HPQ := Lib.hid hpq
          clear hd11 hO11 hms hBp hpq
          clear hbp hzp HD10 HO10
          go_wp2_with fail
          refine HMS.out.mono ?_
          rintro en W12 ⟨_, _, j12, e12, rfl, rfl, hst12, hl12⟩
          have hs12 := left_short short_must hst12
          have hst13 : St R (prThen (prKind 40) fun t => prThen (prPars m' (ps ++ [⟨pn, t⟩])) (prRest n v)) T j12 e12 := HS11.out.then_ hst12
          have hd12 := HD11.out.go hl12
          have hO12 := HO11.out.read FieldR.stays hl12.grew hbB HG8.out
          have hP12 := hl12.grew.box_ HP11.out hpqb
          have hB12 := hl12.size
          have hkd := ekind_any 40 W12 j12 e12 0 hd12.start (by omega) (by omega)
          have HS13 := Lib.hid hst13; have HD12 := Lib.hid hd12; have HO12 := Lib.hid hO12; have HP12 := Lib.hid hP12; have HKD := Lib.hid hkd
          clear hst13 hd12 hO12 hP12 hkd
          clear hl12 hst12 HMS HD11 HO11 HS11 HP11
          go_wp2_with fail
          refine HKD.out.mono ?_
          rintro en W13 ⟨ty, _, j13, e13, rfl, ⟨cs, rfl, hY⟩, hst14, hl13⟩
          have hs13 := left_short (short_kind 40) hst14
          have hst15 : St R (prThen (prPars m' (ps ++ [⟨pn, ty⟩])) (prRest n v)) T j13 e13 := HS13.out.then_ hst14
          have hd13 := HD12.out.go hl13
          have hO13 := HO12.out.read FieldR.stays hl13.grew hbB HG8.out
          have hP13 := hl13.grew.box_ HP12.out hpqb
          have hB13 := hl13.size
          obtain ⟨A3, c3, rfl⟩ := TyR.form hY
          have x1 := hP13.at_ 1 _ rfl
          have x2 := hP13.at_ 2 _ rfl
          have x3 := hP13.at_ 3 _ rfl
          have x4 := hP13.at_ 4 _ rfl
          have g1 := hP13.free 1
          have g2 := hP13.free 2
          have g3 := hP13.free 3
          have g4 := hP13.free 4
          have HS15 := Lib.hid hst15; have HD13 := Lib.hid hd13; have HO13 := Lib.hid hO13; have HP13 := Lib.hid hP13; have HYR := Lib.hid hY
          clear hst15 hd13 hO13 hP13 hY
          clear hl13 hst14 HKD HD12 HO12 HS13 HP12
          go_upto_region 12 with fail
          have hfp : ∀ k, G k → k ≠ pq := fun k hk => by have := HFOOT.out k hk; have := HPQ.out; omega
          have hrp : ∀ k, (Value.slice A2 ps.length c2).ownBlock = some k → k ≠ pq := fun k hk => by have := HROW.out k hk; have := HPQ.out; omega
          have hP14 := (((HP13.out.put 1 (.int .i64 ty.kind)).put 2 (.string ty.of_)).put 3 (.string ty.name)).put 4 (.slice A3 ty.args.length c3)
          simp only [List.setIfInBounds_toArray, List.set_cons_zero, List.set_cons_succ] at hP14
          have hO14 := (((HO13.out.setFar FieldR.stays (p := ⟨pq, 1, none⟩) hfp hrp (.int .i64 ty.kind)).setFar FieldR.stays (p := ⟨pq, 2, none⟩) hfp hrp (.string ty.of_)).setFar FieldR.stays (p := ⟨pq, 3, none⟩) hfp hrp (.string ty.name)).setFar FieldR.stays (p := ⟨pq, 4, none⟩) hfp hrp (.slice A3 ty.args.length c3)
          have hpW : W.heap.size ≤ pq := by have := HD13.out.le; have := HPQ.out; omega
          have hrne : W.heap.size ≠ pq := by have := HD13.out.le; have := HPQ.out; omega
          have hd14 : Dish b F A c T W 83 #[.string ⟨#[]⟩, .string ⟨#[]⟩, .slice none 0 0, .int .i64 0, .string ⟨#[]⟩, .string ⟨#[]⟩, .slice none 0 0, .int .i64 0, .int .i64 0, .string ⟨#[]⟩, .string ⟨#[]⟩, .slice none 0 0] q #[.string n, .string v, .slice A2 ps.length c2, .int .i64 0, .string ⟨#[]⟩, .string ⟨#[]⟩, .slice none 0 0, .int .i64 0, .int .i64 0, .string ⟨#[]⟩, .string ⟨#[]⟩, .slice none 0 0] ((((W13.setCell ⟨pq, 1, none⟩ (.int .i64 ty.kind)).setCell ⟨pq, 2, none⟩ (.string ty.of_)).setCell ⟨pq, 3, none⟩ (.string ty.name)).setCell ⟨pq, 4, none⟩ (.slice A3 ty.args.length c3)) j13 e13 0 :=
            ⟨(((HD13.out.sight.set (p := ⟨pq, 1, none⟩) hpW hbl _).set (p := ⟨pq, 2, none⟩) hpW hbl _).set (p := ⟨pq, 3, none⟩) hpW hbl _).set (p := ⟨pq, 4, none⟩) hpW hbl _,
             (((HD13.out.res.far (p := ⟨pq, 1, none⟩) hrne _).far (p := ⟨pq, 2, none⟩) hrne _).far (p := ⟨pq, 3, none⟩) hrne _).far (p := ⟨pq, 4, none⟩) hrne _,
             (((HD13.out.out.far (p := ⟨pq, 1, none⟩) hqpq _).far (p := ⟨pq, 2, none⟩) hqpq _).far (p := ⟨pq, 3, none⟩) hqpq _).far (p := ⟨pq, 4, none⟩) hqpq _, HD13.out.lt, HD13.out.le⟩
          have hyk : ¬ fresh W12.heap.size W13.heap.size pq := fun h => by have := h.1; omega
          have hY14 := TyR.stays _ _ _ _ _ _ HYR.out (fun _ h => h) (((((Keeps.refl _ _).setCell (q := ⟨pq, 1, none⟩) hyk (.int .i64 ty.kind)).setCell (q := ⟨pq, 2, none⟩) hyk (.string ty.of_)).setCell (q := ⟨pq, 3, none⟩) hyk (.string ty.name)).setCell (q := ⟨pq, 4, none⟩) hyk (.slice A3 ty.args.length c3))
          have hB14 : ((((W13.setCell ⟨pq, 1, none⟩ (.int .i64 ty.kind)).setCell ⟨pq, 2, none⟩ (.string ty.of_)).setCell ⟨pq, 3, none⟩ (.string ty.name)).setCell ⟨pq, 4, none⟩ (.slice A3 ty.args.length c3)).heap.size = W13.heap.size := by simp only [size_set]
          generalize (((W13.setCell ⟨pq, 1, none⟩ (.int .i64 ty.kind)).setCell ⟨pq, 2, none⟩ (.string ty.of_)).setCell ⟨pq, 3, none⟩ (.string ty.name)).setCell ⟨pq, 4, none⟩ (.slice A3 ty.args.length c3) = W14 at hP14 hO14 hd14 hY14 hB14 ⊢
          have ho14 := hd14.out
          clear x1 x2 x3 x4 g1 g2 g3 g4
          have x0 := hP14.at_ 0 _ rfl
          have x1 := hP14.at_ 1 _ rfl
          have x2 := hP14.at_ 2 _ rfl
          have x3 := hP14.at_ 3 _ rfl
          have x4 := hP14.at_ 4 _ rfl
          have y2 := ho14.at_ 2 _ rfl
          have hy2 := fun o => (ho14.alloc o).at_ 2 _ rfl
          have hyf := fun o => (ho14.alloc o).free 2
          have hFR : FieldR W14 (fresh W12.heap.size W13.heap.size) [.string pn, .int .i64 ty.kind, .string ty.of_, .string ty.name, .slice A3 ty.args.length c3] ⟨pn, ty⟩ := ⟨[.int .i64 ty.kind, .string ty.of_, .string ty.name, .slice A3 ty.args.length c3], rfl, HPO.out, hY14⟩
          have hql : q < W14.heap.size := ho14.lt
          have HD14 := Lib.hid hd14; have HO14 := Lib.hid hO14; have HFR := Lib.hid hFR; have HB14 := Lib.hid hB14
          clear hd14 hO14 hFR hB14
          clear hP14 HP13 HO13 HD13 HYR ho14 hY14 hfp hrp
          go_wp2_with (at_builtin; go_must ((refine wpList_push FieldR.stays (.agg #[.string ⟨#[]⟩, .int .i64 0, .string ⟨#[]⟩, .string ⟨#[]⟩, .slice none 0 0]) [.string pn, .int .i64 ty.kind, .string ty.of_, .string ty.name, .slice A3 ty.args.length c3] ⟨pn, ty⟩ rfl rfl Tryz.underlying24 (bytes := 80) (by kernel_rfl) HO14.out rfl rfl (by decide) rfl rfl HFR.out (rfield_cells HFR.out) (fun k hk => ⟨by have := hk.2; have := HB14.out; omega, fun e => by have := HROW.out k e.symm; have := hk.1; omega⟩) (by unfold maxLen; omega) (by omega) (by have := HB14.out; omega) ?_); (intro A6 c6 W15 hO6 hgr _; have hd15 := HD14.out.grown hgr hqB; have ho15 := hd15.out; have z2 := ho15.at_ 2 _ rfl; have f2 := ho15.free 2; have hgs := hgr.size; have HD15 := Lib.hid hd15; have HO15 := Lib.hid hO6; have HGS := Lib.hid hgs; clear hO6 hgr hd15 ho15 hgs)))
          have hdec : left T j13 e13 + 1 ≤ left T i8 0 := by omega
          have hmm : left T j13 e13 ≤ m' := by omega
          go_roundg (left T j13 e13)
          case measure => omega
          case rel =>
            have hd16 := HD15.out.set 2 (.slice A6 (ps.length + 1) c6)
            simp only [List.setIfInBounds_toArray, List.set_cons_zero, List.set_cons_succ] at hd16
            have hG16 : ∀ k, G k ∨ fresh W12.heap.size W13.heap.size k → B ≤ k := fun k hk => hk.elim (HG8.out k) (fun h => by have := h.1; omega)
            refine ⟨m', c6, A6, ps ++ [⟨pn, ty⟩], j13, e13, (fun k => G k ∨ fresh W12.heap.size W13.heap.size k), Nat.le_refl _, hmm, by rw [List.length_append, List.length_singleton]; omega, aside HS15.out, aside ?_, aside ?_, aside hG16, aside ?_⟩
            · rw [List.length_append, List.length_singleton]; exact hd16
            · have h := HO15.out.set FieldR.stays (p := ⟨q, 2, none⟩) (by show q < B; omega) (fun k hk => by have := hG16 k hk; show k ≠ q; omega) (.slice A6 (ps.length + 1) c6)
              rw [List.length_append, List.length_singleton]; exact h
            · rw [size_set]; have := HGS.out; have := HB14.out; omega
      · have hez : (e7 == 0) = false := by simp [hz7]
        have hst8 : St R (prRest n v ps) T j e7 := hst7.out.stuck hz7
        have HS8 := Lib.hid hst8
        clear hst8
        go_wp2_with fail
        go_meet
        exact ⟨ps, A2, c2, j, e7, G, by omega, HS8.out, hd7.out, hO7.out, hG7.out, by omega⟩
  case rest =>
  clear HD6 HS7
  obtain ⟨ps, A7, c7, i8, e8, G, hpl, hst8, hd8, hO8, hG8, hB8⟩ := hcut
  obtain ⟨W8, rfl⟩ : ∃ W, W = wc := ⟨_, rfl⟩
  have hbB : b < B := by have := HBE.out; have := hd8.lt; have := hd8.le; omega
  have hms := wants_any hd8.start sColon
  have HS8 := Lib.hid hst8; have HD8 := Lib.hid hd8; have HO8 := Lib.hid hO8; have HG8 := Lib.hid hG8; have HMS := Lib.hid hms
  clear hst8 hd8 hO8 hG8 hms
  go_wp2_with fail
  refine HMS.out.mono ?_
  rintro en W9 ⟨_, _, i9, e9, rfl, rfl, hst9, hl9⟩
  have hst10 : St R (prThen (prKind 40) fun t => prThen (prMust sEq) fun _ => prThen (prExpr 40) fun x => prPure ⟨n, v, ps, t, x⟩) T i9 e9 := HS8.out.then_ hst9
  have hd9 := HD8.out.go hl9
  have hO9 := HO8.out.read FieldR.stays hl9.grew hbB HG8.out
  have hB9 := hl9.size
  have hkd := ekind_any 40 W9 i9 e9 0 hd9.start (by omega) (by omega)
  have HS10 := Lib.hid hst10; have HD9 := Lib.hid hd9; have HO9 := Lib.hid hO9; have HKD := Lib.hid hkd
  clear hst10 hd9 hO9 hkd
  clear hl9 hst9 HMS HD8 HO8 HS8
  go_wp2_with fail
  refine HKD.out.mono ?_
  rintro en W10 ⟨ty, _, i10, e10, rfl, ⟨cs, rfl, hY⟩, hst11, hl10⟩
  have hst12 : St R (prThen (prMust sEq) fun _ => prThen (prExpr 40) fun x => prPure ⟨n, v, ps, ty, x⟩) T i10 e10 := HS10.out.then_ hst11
  have hd10 := HD9.out.go hl10
  have hO10 := HO9.out.read FieldR.stays hl10.grew hbB HG8.out
  have hB10 := hl10.size
  obtain ⟨A2, c2, rfl⟩ := TyR.form hY
  have ho10 := hd10.out
  have hBE := HBE.out
  have hBWq := hd10.le
  have x3 := ho10.at_ 3 _ rfl
  have x4 := ho10.at_ 4 _ rfl
  have x5 := ho10.at_ 5 _ rfl
  have x6 := ho10.at_ 6 _ rfl
  have g3 := ho10.free 3
  have g4 := ho10.free 4
  have g5 := ho10.free 5
  have g6 := ho10.free 6
  have HS12 := Lib.hid hst12; have HD10 := Lib.hid hd10; have HO10 := Lib.hid hO10; have HYR := Lib.hid hY
  clear hst12 hd10 hO10 hY
  clear hl10 hst11 HKD HD9 HO9 HS10 ho10
  go_upto_region 15 with fail
  have hd11 := (((HD10.out.set 3 (.int .i64 ty.kind)).set 4 (.string ty.of_)).set 5 (.string ty.name)).set 6 (.slice A2 ty.args.length c2)
  simp only [List.setIfInBounds_toArray, List.set_cons_zero, List.set_cons_succ] at hd11
  have hO11 := (((HO10.out.set FieldR.stays (p := ⟨q, 3, none⟩) (by show q < B; omega) (fun k hk => by have := HG8.out k hk; show k ≠ q; omega) (.int .i64 ty.kind)).set FieldR.stays (p := ⟨q, 4, none⟩) (by show q < B; omega) (fun k hk => by have := HG8.out k hk; show k ≠ q; omega) (.string ty.of_)).set FieldR.stays (p := ⟨q, 5, none⟩) (by show q < B; omega) (fun k hk => by have := HG8.out k hk; show k ≠ q; omega) (.string ty.name)).set FieldR.stays (p := ⟨q, 6, none⟩) (by show q < B; omega) (fun k hk => by have := HG8.out k hk; show k ≠ q; omega) (.slice A2 ty.args.length c2)
  have hqk : ¬ fresh W9.heap.size W10.heap.size q := fun h => by have := h.1; omega
  have hY11 := TyR.stays _ _ _ _ _ _ HYR.out (fun _ h => h) (((((Keeps.refl _ _).setCell (q := ⟨q, 3, none⟩) hqk (.int .i64 ty.kind)).setCell (q := ⟨q, 4, none⟩) hqk (.string ty.of_)).setCell (q := ⟨q, 5, none⟩) hqk (.string ty.name)).setCell (q := ⟨q, 6, none⟩) hqk (.slice A2 ty.args.length c2))
  have hB11 : ((((W10.setCell ⟨q, 3, none⟩ (.int .i64 ty.kind)).setCell ⟨q, 4, none⟩ (.string ty.of_)).setCell ⟨q, 5, none⟩ (.string ty.name)).setCell ⟨q, 6, none⟩ (.slice A2 ty.args.length c2)).heap.size = W10.heap.size := by simp only [size_set]
  generalize (((W10.setCell ⟨q, 3, none⟩ (.int .i64 ty.kind)).setCell ⟨q, 4, none⟩ (.string ty.of_)).setCell ⟨q, 5, none⟩ (.string ty.name)).setCell ⟨q, 6, none⟩ (.slice A2 ty.args.length c2) = W11 at hd11 hO11 hY11 hB11 ⊢
  have hms := wants_any hd11.start sEq
  have HD11 := Lib.hid hd11; have HO11 := Lib.hid hO11; have HY11 := Lib.hid hY11; have HMS := Lib.hid hms; have HS11 := Lib.hid hB11
  clear hd11 hO11 hY11 hms hB11
  clear x3 x4 x5 x6 g3 g4 g5 g6 HYR HO10 HD10
  go_wp2_with fail
  refine HMS.out.mono ?_
  rintro en W12 ⟨_, _, i12, e12, rfl, rfl, hst13, hl12⟩
  have hst14 : St R (prThen (prExpr 40) fun x => prPure ⟨n, v, ps, ty, x⟩) T i12 e12 := HS12.out.then_ hst13
  have hd12 := HD11.out.go hl12
  have hO12 := HO11.out.read FieldR.stays hl12.grew hbB HG8.out
  have hY12 := TyR.stays _ _ _ _ _ _ HY11.out (fun _ h => h) (hl12.grew.keeps (n := W9.heap.size) (m := W10.heap.size) (by omega) (by have := HS11.out; omega))
  have hB12 := hl12.size
  have hex := eexpr_any 40 W12 i12 e12 0 hd12.start (by omega) (by omega)
  have HS14 := Lib.hid hst14; have HD12 := Lib.hid hd12; have HO12 := Lib.hid hO12; have HY12 := Lib.hid hY12; have HEX := Lib.hid hex
  clear hst14 hd12 hO12 hY12 hex
  clear hl12 hst13 HMS HD11 HO11 HS12 HY11
  go_wp2_with fail
  refine HEX.out.mono ?_
  rintro en W13 ⟨ex, _, i13, e13, rfl, ⟨cs, rfl, hZ⟩, hst15, hl13⟩
  have hst16 : St R (prPure ⟨n, v, ps, ty, ex⟩) T i13 e13 := HS14.out.then_ hst15
  have hd13 := HD12.out.go hl13
  have hO13 := HO12.out.read FieldR.stays hl13.grew hbB HG8.out
  have hY13 := TyR.stays _ _ _ _ _ _ HY12.out (fun _ h => h) (hl13.grew.keeps (n := W9.heap.size) (m := W10.heap.size) (by omega) (by have := HS11.out; omega))
  have hB13 := hl13.size
  obtain ⟨A3, c3, rfl⟩ := ExR.form hZ
  have ho13 := hd13.out
  have hr13 := hd13.res
  have hS11 := HS11.out
  have hps : SliceOf FieldR 5 80 W13 (fresh B W13.heap.size) (.slice A7 ps.length c7) ps := hO13.slice FieldR.stays (fun k hk => ⟨HG8.out k hk, (hO13.foot hk).1⟩) (fun k h1 h2 => ⟨h1, h2⟩) (by omega) (by omega)
  have hrB : W.heap.size < B := by have := HD12.out.le; omega
  have x7 := ho13.at_ 7 _ rfl
  have x8 := ho13.at_ 8 _ rfl
  have x9 := ho13.at_ 9 _ rfl
  have x10 := ho13.at_ 10 _ rfl
  have x11 := ho13.at_ 11 _ rfl
  have g7 := ho13.free 7
  have g8 := ho13.free 8
  have g9 := ho13.free 9
  have g10 := ho13.free 10
  have g11 := ho13.free 11
  have HS16 := Lib.hid hst16; have HD13 := Lib.hid hd13; have HPS := Lib.hid hps; have HY13 := Lib.hid hY13; have HZ13 := Lib.hid hZ
  clear hst16 hd13 hps hY13 hZ
  clear hl13 hst15 HEX HD12 HO12 HS14 HY12 ho13 hr13 hO13
  go_upto_region 17 with fail
  have hd14 := ((((HD13.out.set 7 (.int .i64 ex.kind)).set 8 (.int .i64 ex.n)).set 9 (.string ex.of_)).set 10 (.string ex.s)).set 11 (.slice A3 ex.args.length c3)
  simp only [List.setIfInBounds_toArray, List.set_cons_zero, List.set_cons_succ] at hd14
  have hnq : ∀ m, B ≤ m → ¬ fresh m W13.heap.size q := fun m hm h => by have := h.1; omega
  have hk14 : ∀ m, B ≤ m → Keeps (fresh m W13.heap.size) W13 (((((W13.setCell ⟨q, 7, none⟩ (.int .i64 ex.kind)).setCell ⟨q, 8, none⟩ (.int .i64 ex.n)).setCell ⟨q, 9, none⟩ (.string ex.of_)).setCell ⟨q, 10, none⟩ (.string ex.s)).setCell ⟨q, 11, none⟩ (.slice A3 ex.args.length c3)) := fun m hm =>
    (((((Keeps.refl _ _).setCell (hnq m hm) _).setCell (hnq m hm) _).setCell (hnq m hm) _).setCell (hnq m hm) _).setCell (hnq m hm) _
  have hB14 : (((((W13.setCell ⟨q, 7, none⟩ (.int .i64 ex.kind)).setCell ⟨q, 8, none⟩ (.int .i64 ex.n)).setCell ⟨q, 9, none⟩ (.string ex.of_)).setCell ⟨q, 10, none⟩ (.string ex.s)).setCell ⟨q, 11, none⟩ (.slice A3 ex.args.length c3)).heap.size = W13.heap.size := by simp only [size_set]
  generalize ((((W13.setCell ⟨q, 7, none⟩ (.int .i64 ex.kind)).setCell ⟨q, 8, none⟩ (.int .i64 ex.n)).setCell ⟨q, 9, none⟩ (.string ex.of_)).setCell ⟨q, 10, none⟩ (.string ex.s)).setCell ⟨q, 11, none⟩ (.slice A3 ex.args.length c3) = W14 at hd14 hk14 hB14 ⊢
  have ho14 := hd14.out
  have hr14 := hd14.res
  clear x7 x8 x9 x10 x11 g7 g8 g9 g10 g11
  have x0 := ho14.at_ 0 _ rfl
  have x1 := ho14.at_ 1 _ rfl
  have x2 := ho14.at_ 2 _ rfl
  have x3 := ho14.at_ 3 _ rfl
  have x4 := ho14.at_ 4 _ rfl
  have x5 := ho14.at_ 5 _ rfl
  have x6 := ho14.at_ 6 _ rfl
  have x7 := ho14.at_ 7 _ rfl
  have x8 := ho14.at_ 8 _ rfl
  have x9 := ho14.at_ 9 _ rfl
  have x10 := ho14.at_ 10 _ rfl
  have x11 := ho14.at_ 11 _ rfl
  have r0 := hr14.at_ 0 _ rfl
  have r1 := hr14.at_ 1 _ rfl
  have r2 := hr14.at_ 2 _ rfl
  have r3 := hr14.at_ 3 _ rfl
  have r4 := hr14.at_ 4 _ rfl
  have r5 := hr14.at_ 5 _ rfl
  have r6 := hr14.at_ 6 _ rfl
  have r7 := hr14.at_ 7 _ rfl
  have r8 := hr14.at_ 8 _ rfl
  have r9 := hr14.at_ 9 _ rfl
  have r10 := hr14.at_ 10 _ rfl
  have r11 := hr14.at_ 11 _ rfl
  have k0 := hr14.free 0
  have k1 := hr14.free 1
  have k2 := hr14.free 2
  have k3 := hr14.free 3
  have k4 := hr14.free 4
  have k5 := hr14.free 5
  have k6 := hr14.free 6
  have k7 := hr14.free 7
  have k8 := hr14.free 8
  have k9 := hr14.free 9
  have k10 := hr14.free 10
  have k11 := hr14.free 11
  have HD14 := Lib.hid hd14; have HK14 := Lib.hid hk14; have HB14 := Lib.hid hB14
  clear hd14 hk14 hB14
  clear ho14 hr14
  go_wp2_with fail
  refine bodyPost_ret (v := .agg #[.string n, .string v, .slice A7 ps.length c7, .int .i64 ty.kind, .string ty.of_, .string ty.name, .slice A2 ty.args.length c2, .int .i64 ex.kind, .int .i64 ex.n, .string ex.of_, .string ex.s, .slice A3 ex.args.length c3]) (by simp [results, Tryz.results145, go_sem, r0, r1, r2, r3, r4, r5, r6, r7, r8, r9, r10, r11]) rfl ?_
  have hnr : ∀ m, B ≤ m → ¬ fresh m W13.heap.size W.heap.size := fun m hm h => by have := h.1; omega
  have hk15 := fun m (hm : B ≤ m) => (((((((((((((HK14.out m hm).setCell (q := ⟨W.heap.size, 0, none⟩) (hnr m hm) (.string n)).setCell (q := ⟨W.heap.size, 1, none⟩) (hnr m hm) (.string v)).setCell (q := ⟨W.heap.size, 2, none⟩) (hnr m hm) (.slice A7 ps.length c7)).setCell (q := ⟨W.heap.size, 3, none⟩) (hnr m hm) (.int .i64 ty.kind)).setCell (q := ⟨W.heap.size, 4, none⟩) (hnr m hm) (.string ty.of_)).setCell (q := ⟨W.heap.size, 5, none⟩) (hnr m hm) (.string ty.name)).setCell (q := ⟨W.heap.size, 6, none⟩) (hnr m hm) (.slice A2 ty.args.length c2)).setCell (q := ⟨W.heap.size, 7, none⟩) (hnr m hm) (.int .i64 ex.kind)).setCell (q := ⟨W.heap.size, 8, none⟩) (hnr m hm) (.int .i64 ex.n)).setCell (q := ⟨W.heap.size, 9, none⟩) (hnr m hm) (.string ex.of_)).setCell (q := ⟨W.heap.size, 10, none⟩) (hnr m hm) (.string ex.s)).setCell (q := ⟨W.heap.size, 11, none⟩) (hnr m hm) (.slice A3 ex.args.length c3))
  have hd15 := (((((((((((HD14.out.setR 0 (.string n)).setR 1 (.string v)).setR 2 (.slice A7 ps.length c7)).setR 3 (.int .i64 ty.kind)).setR 4 (.string ty.of_)).setR 5 (.string ty.name)).setR 6 (.slice A2 ty.args.length c2)).setR 7 (.int .i64 ex.kind)).setR 8 (.int .i64 ex.n)).setR 9 (.string ex.of_)).setR 10 (.string ex.s)).setR 11 (.slice A3 ex.args.length c3)
  have hl15 := hd15.sight
  have hup : ∀ m k, B ≤ m → fresh m W13.heap.size k → fresh W.heap.size W14.heap.size k := fun m k hm hk => ⟨by have := hk.1; omega, by have := hk.2; have := HB14.out; omega⟩
  refine ⟨_, _, i13, e13, rfl, ⟨[.string n, .string v, .slice A7 ps.length c7, .int .i64 ty.kind, .string ty.of_, .string ty.name, .slice A2 ty.args.length c2, .int .i64 ex.kind, .int .i64 ex.n, .string ex.of_, .string ex.s, .slice A3 ex.args.length c3], rfl, _, [.int .i64 ty.kind, .string ty.of_, .string ty.name, .slice A2 ty.args.length c2], [.int .i64 ex.kind, .int .i64 ex.n, .string ex.of_, .string ex.s, .slice A3 ex.args.length c3], rfl, HNO.out, HVO.out, ?_, ?_, ?_⟩, HS16.out, hl15⟩
  · simp only [size_set]
    exact SliceOf.stays FieldR.stays HPS.out (fun k hk => hup _ _ (Nat.le_refl _) hk) (hk15 B (Nat.le_refl _))
  · simp only [size_set]
    exact TyR.stays _ _ _ _ _ _ HY13.out (fun k hk => ⟨by have := hk.1; omega, by have := hk.2; have := HB14.out; omega⟩) ((hk15 W9.heap.size (by omega)).mono (fun k hk => ⟨hk.1, by have := hk.2; omega⟩))
  · simp only [size_set]
    exact ExR.stays _ _ _ _ _ _ HZ13.out (fun k hk => hup W12.heap.size _ (by omega) hk) (hk15 W12.heap.size (by omega))

end Go.Proofs.YtjaladhdnbhliaaGreatDoor
