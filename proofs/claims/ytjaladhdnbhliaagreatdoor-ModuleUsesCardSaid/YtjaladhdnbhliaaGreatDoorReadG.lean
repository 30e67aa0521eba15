/- Texts that belong together: Look, Take, Deeper, ListRead, NamedRead, AtomRead, Panics, PostRead, ExprRead, TyRead, FunRead. -/
import Derived.Test.YtjaladhdnbhliaaGreatDoorReadPlain
import Derived.Test.YtjaladhdnbhliaaGreatDoorGrew
import Derived.Test.YtjaladhdnbhliaaGreatDoorFault
import Derived.Test.YtjaladhdnbhliaaGreatDoorRows
import Derived.Test.YtjaladhdnbhliaaGreatDoorTreeChk2
import Derived.Test.YtjaladhdnbhliaaGreatDoorBase
import Derived.Test.YtjaladhdnbhliaaGreatDoorTokNum
import Derived.Test.YtjaladhdnbhliaaGreatDoorTreeChk
import Derived.Test.YtjaladhdnbhliaaGreatDoorTreeChk3
import Derived.Deep.QuietTactic
import Derived.Deep.RegionHeld3
import Derived.Deep.RegionLaw
import Derived.Deep.DeepCutAuto
import Derived.BigQuiet
import Derived.WalkSmall
import Derived.Handy
import Derived.Defers
import Derived.Recover
import Derived.Deep.CutBlock
/- The program's reader of tokens: (*tree.reader).next, take, must, name, deeper, and where it stands. -/
namespace Go.Proofs.YtjaladhdnbhliaaGreatDoor
open Go.RowKit Go.Shelf

/-- The reader at block b: its tokens, how deep it is. -/
def Eyes (W : World) (b : Nat) (F : Foot) (L : List Token) (d : Int) : Prop :=
  ∃ A c, Box W b 141 #[.slice A L.length c, .int .i64 d] ∧ SliceOf TokenR 2 24 W F (.slice A L.length c) L

/-- From world w on the reader at block b has come to tokens L, at depth d. -/
structure Look (b : Nat) (F : Foot) (w W : World) (L : List Token) (d : Int) : Prop where
  eyes : Eyes W b F L d
  grew : Grew b w W (some b)
  foot : ∀ k, F k → k < b
  fine : ∀ t ∈ L, t.kind = 2 → numOk t.text = true

section
variable {b : Nat} {F : Foot} {w W W' : World} {L L' : List Token} {d d' : Int}
theorem Eyes.lt (h : Eyes W b F L d) : b < W.heap.size := by
  obtain ⟨A, c, hB, _⟩ := h
  exact hB.lt
theorem Eyes.kept (h : Eyes W b F L d) (_hs : W.heap.size ≤ W'.heap.size) (hF : ∀ k, F k → k < b) (hk : ∀ k, k < W.heap.size → (F k ∨ k = b) → W'.heap[k]? = W.heap[k]?) : Eyes W' b F L d := by
  have hlt := h.lt
  obtain ⟨A, c, hB, hS⟩ := h
  exact ⟨A, c, hB.of_heap (hk b hlt (.inr rfl)), hS.stays TokenR.stays (fun _ h => h) (keeps_of_heap fun k h => hk k (Nat.lt_trans (hF k h) hlt) (.inl h))⟩
theorem Look.lt (h : Look b F w W L d) : b < W.heap.size := h.eyes.lt
theorem Look.size (h : Look b F w W L d) : w.heap.size ≤ W.heap.size := h.grew.size
theorem Look.start (h : Look b F w W L d) : Look b F W W L d := ⟨h.eyes, Grew.refl_ _ _ _ some_le, h.foot, h.fine⟩
theorem Look.trans (h : Look b F w W L d) (k : Look b F W W' L' d') : Look b F w W' L' d' := ⟨k.eyes, h.grew.trans_ k.grew, k.foot, k.fine⟩
theorem Look.below (h : Look b F w W L d) (hb : Below W.heap.size W W') : Look b F w W' L d :=
  ⟨h.eyes.kept hb.size h.foot fun k hk _ => hb.block k hk, h.grew.trans_ (Grew.of_below hb some_le), h.foot, h.fine⟩
theorem Look.drew (h : Look b F w W L d) : Look b F w W.drew L d := h.below (by go_grown)
theorem Look.drewN (h : Look b F w W L d) (n : Nat) : Look b F w (W.drewN n) L d := h.below (below_drewN (Below.refl _ _) n)
theorem Look.alloc (h : Look b F w W L d) (o : Obj) : Look b F w (W.alloc o) L d := h.below ((Below.refl _ _).alloc (Nat.le_refl _) o)
/-- A row of the function's own has grown. -/
theorem Look.then_ (h : Look b F w W L d) {row : Option Nat} (hg : Grew w.heap.size W W' row) (hb : b < w.heap.size) : Look b F w W' L d :=
  ⟨h.eyes.kept hg.size h.foot fun k hk hk2 => hg.block k hk (fun e => by
      have := hg.low k e.symm
      rcases hk2 with h2 | h2
      · have := h.foot k h2; omega
      · omega), h.grew.then_ hg, h.foot, h.fine⟩
/-- A new block is written to. -/
theorem Look.set (h : Look b F w W L d) {p : Addr} (hp : w.heap.size ≤ p.block) (hb : b < w.heap.size) (u : Value) : Look b F w (W.setCell p u) L d :=
  ⟨h.eyes.kept (by rw [size_set]; exact Nat.le_refl _) h.foot fun k _ hk => Below.heap_setCell _ _ _ _ (fun e => by
      rcases hk with hk | hk
      · have := h.foot k hk; omega
      · omega), h.grew.set_new hp u, h.foot, h.fine⟩
end

/-- Is the sign next, and what is left. -/
def Took (s : ByteArray) (L : List Token) (z : Bool) (L' : List Token) : Prop := (z = false ∧ prTake s L = none ∧ L' = L) ∨ (z = true ∧ prTake s L = some L')
theorem Took.no {s : ByteArray} {L L' : List Token} (h : Took s L false L') : prTake s L = none ∧ L' = L := h.elim (fun h => h.2) (fun h => by cases h.1)
theorem Took.yes {s : ByteArray} {L L' : List Token} (h : Took s L true L') : prTake s L = some L' := h.elim (fun h => by cases h.1) (fun h => h.2)

theorem tok_cap {α : Type} {R : CR α} {sz by_ : Nat} {F : Foot} {w : World} {A : Option Addr} {n c : Nat} {l : List α} (h : SliceOf R sz by_ w F (.slice A n c) l) : n ≤ c ∧ c ≤ maxLen ∧ n = l.length := by
  obtain ⟨_, _, e, h1, h2, _⟩ := h
  injection e with _ e2 e3
  subst e2; subst e3
  exact ⟨h1, h2, rfl⟩
/-- The first of some tokens, and the rest. -/
theorem tok_head {w : World} {F : Foot} {A : Option Addr} {n c : Nat} {t : Token} {L : List Token} (h : SliceOf TokenR 2 24 w F (.slice A n c) (t :: L)) :
    ∃ p off, A = some ⟨p, off, none⟩ ∧ F p ∧ I64 t.kind ∧ okS t.text ∧ w.cell? ⟨p, off, none⟩ = some (.int .i64 t.kind) ∧ w.cell? ⟨p, off + 1, none⟩ = some (.string t.text) := by
  obtain ⟨p, off, cs, rfl, hF, _, hR, hc⟩ := h.at_ (k := 0) (by simp)
  obtain ⟨rfl, h1, h2⟩ : cs = [.int .i64 t.kind, .string t.text] ∧ I64 t.kind ∧ okS t.text := hR
  exact ⟨p, off, rfl, hF, h1, h2, by have := hc 0 _ rfl; simpa using this, by have := hc 1 _ rfl; simpa using this⟩

end Go.Proofs.YtjaladhdnbhliaaGreatDoor

/- The program's reader of tokens: (*tree.reader).next, take, must, name. -/
namespace Go.Proofs.YtjaladhdnbhliaaGreatDoor
open Go.RowKit Go.Shelf

/-- What is left behind the first token. -/
theorem tok_tail {w : World} {F : Foot} {p off n c : Nat} {t : Token} {L : List Token} (h : SliceOf TokenR 2 24 w F (.slice (some ⟨p, off, none⟩) (n + 1) c) (t :: L)) (A : Option Addr) (hA : 0 < L.length → A = some ⟨p, off + 2, none⟩) :
    SliceOf TokenR 2 24 w F (.slice A L.length (c - 1)) L := by
  obtain ⟨A', cap, e, h1, h2, h3, h3', h4⟩ := h
  rw [List.length_cons] at e h1 h3 h3'
  injection e with e1 e2 e3
  subst e1; subst e3
  obtain ⟨b, o, e4, hF, hx⟩ := h4 (by simp)
  injection e4 with e4; injection e4 with e5 e6
  subst e5; subst e6
  refine ⟨A, c - 1, rfl, by omega, by omega, by omega, by omega, fun hl => ⟨p, off + 2, hA hl, hF, fun i x hi => ?_⟩⟩
  obtain ⟨cs, k1, k2, k3⟩ := hx (i + 1) x (by simpa using hi)
  refine ⟨cs, k1, k2, fun j u hj => ?_⟩
  have := k3 j u hj
  rw [show off + (i + 1) * 2 + j = off + 2 + i * 2 + j by omega] at this
  exact this

/-- The first token is gone. -/
theorem Look.tail {b : Nat} {F : Foot} {w W : World} {t : Token} {L : List Token} {d : Int} {p off n c : Nat} (h : Look b F w W (t :: L) d) (hB : Box W b 141 #[.slice (some ⟨p, off, none⟩) (n + 1) c, .int .i64 d])
    (hS : SliceOf TokenR 2 24 W F (.slice (some ⟨p, off, none⟩) (n + 1) c) (t :: L)) (hn : L.length = n) (A : Option Addr) (hA : 0 < n → A = some ⟨p, off + 2, none⟩) : Look b F w (W.setCell ⟨b, 0, none⟩ (.slice A n (c - 1))) L d := by
  refine ⟨⟨A, c - 1, ?_, ?_⟩, h.grew.trans_ (Grew.cell_ _ _ _), h.foot, fun x hx => h.fine x (List.mem_cons_of_mem _ hx)⟩
  · have := hB.put 0 (.slice A n (c - 1))
    rw [hn]
    simpa using this
  · exact (tok_tail hS A (by rw [hn]; exact hA)).stays TokenR.stays (fun _ h => h) ((Keeps.refl _ _).setCell (fun hF => Nat.lt_irrefl _ (h.foot _ hF)) _)

/-- What take gives. -/
def GaveTook (b : Nat) (F : Foot) (w : World) (d : Int) (s : ByteArray) (L : List Token) (e : Ending) (w' : World) : Prop := ∃ z L', e = .returned (.bool z) ∧ Took s L z L' ∧ Look b F w w' L' d

set_option maxRecDepth 100000 in
set_option maxHeartbeats 2000000 in
theorem take_any {b : Nat} {F : Foot} {w W : World} {L : List Token} {d : Int} (h : Look b F w W L d) (s : ByteArray) :
    Calls Tryz.prog 195 #[.pointer (some ⟨b, 0, none⟩), .string s] W fun e w' => GaveTook b F w d s L e w' := by
  have hlt := h.lt
  cases L with
  | nil =>
    obtain ⟨A, c, hB, hS⟩ := h.eyes
    have x0 := hB.at_ 0 _ rfl
    have x1 := hB.at_ 1 _ rfl
    have HH := Lib.hid h
    clear h
    clear hS hB
    go_enter Tryz.func195, Tryz.ntmps195
    go_wp2_with fail
    go_ret
    exact ⟨false, [], rfl, .inl ⟨rfl, rfl, rfl⟩, HH.out⟩
  | cons t r =>
    obtain ⟨A, c, hB, hS⟩ := h.eyes
    obtain ⟨n, hn⟩ : ∃ n, r.length = n := ⟨_, rfl⟩
    rw [List.length_cons, hn] at hB hS
    obtain ⟨p, off, rfl, hFp, hk, htx, c0, c1⟩ := tok_head hS
    have hcap := (tok_cap hS).1
    have hnz : ((n : Int) + 1 == 0) = false := by simp; omega
    have h1n : (1 : Int) ≤ (n : Int) + 1 := by omega
    have hpb : p ≠ b := fun e => by have := h.foot p hFp; omega
    obtain ⟨kd, tx⟩ := t
    dsimp only at *
    have x0 := hB.at_ 0 _ rfl
    have x1 := hB.at_ 1 _ rfl
    have g0 := hB.free 0
    have g1 := hB.free 1
    have HH := Lib.hid h; have HB := Lib.hid hB; have HS := Lib.hid hS; have HN := Lib.hid hn
    clear h hB hS hn
    clear hFp
    cases hq : (kd == 4)
    · have hqz : (kd != 4) = true := by simp [bne, hq]
      have HQ := Lib.hid hq; clear hq
      go_enter Tryz.func195, Tryz.ntmps195
      go_wp2_with fail
      go_ret
      refine ⟨false, _, rfl, .inl ⟨rfl, ?_, rfl⟩, HH.out⟩
      rw [prTake_cons]
      rw [if_neg]
      intro h; have := HQ.out; simp at this; exact this h.1
    · have hqz : (kd != 4) = false := by simp [bne, hq]
      have HQ := Lib.hid hq; clear hq
      cases ht : (tx.toList == s.toList)
      · have htz : (tx.toList != s.toList) = true := by simp only [bne, ht]; rfl
        have HT := Lib.hid ht
        go_enter Tryz.func195, Tryz.ntmps195
        go_wp2_with fail
        go_ret
        refine ⟨false, _, rfl, .inl ⟨rfl, ?_, rfl⟩, HH.out⟩
        rw [prTake_cons]
        rw [if_neg]
        intro h; have e := HT.out; have h2 := h.2; unfold eqB at h2; dsimp only at h2; rw [e] at h2; cases h2
      · have htz : (tx.toList != s.toList) = false := by simp only [bne, ht]; rfl
        have HT := Lib.hid ht
        go_enter Tryz.func195, Tryz.ntmps195
        go_wp2_with fail
        all_goals
          go_ret
          refine ⟨true, r, rfl, .inr ⟨rfl, ?_⟩, ?_⟩
          · rw [prTake_cons, if_pos ⟨by simpa using HQ.out, HT.out⟩]
          · first
              | exact Look.tail HH.out HB.out HS.out HN.out _ (fun _ => rfl)
              | ((have hc1 : c = 1 := by assumption); subst hc1; exact Look.tail HH.out HB.out HS.out HN.out _ (fun h => by omega))

/-- The next token; an empty one at the end. -/
def Nexted (L : List Token) (t : Token) (L' : List Token) : Prop := (L = [] ∧ t = ⟨0, mt⟩ ∧ L' = []) ∨ L = t :: L'
def GaveNext (b : Nat) (F : Foot) (w : World) (d : Int) (L : List Token) (e : Ending) (w' : World) : Prop :=
  ∃ t L', e = .returned (.agg #[.int .i64 t.kind, .string t.text]) ∧ Nexted L t L' ∧ I64 t.kind ∧ okS t.text ∧ Look b F w w' L' d

set_option maxRecDepth 100000 in
set_option maxHeartbeats 2000000 in
theorem next_any {b : Nat} {F : Foot} {w W : World} {L : List Token} {d : Int} (h : Look b F w W L d) (hb : b < w.heap.size) :
    Calls Tryz.prog 123 #[.pointer (some ⟨b, 0, none⟩)] W (GaveNext b F w d L) := by
  have hlt := h.lt
  have hws := h.size
  cases L with
  | nil =>
    have HH := Lib.hid h
    clear h
    go_enter Tryz.func123, Tryz.ntmps123
    go_upto_region 1 with fail
    have hBr := Box.made W 182 #[.int .i64 0, .string ⟨#[]⟩]
    have hbr : Below W.heap.size W (W.alloc (.cells #[.int .i64 0, .string ⟨#[]⟩] 182)) := by go_grown
    have hzr : (W.alloc (.cells #[.int .i64 0, .string ⟨#[]⟩] 182)).heap.size = W.heap.size + 1 := by simp
    generalize W.alloc (.cells #[.int .i64 0, .string ⟨#[]⟩] 182) = W1 at hBr hbr hzr ⊢
    have hL := HH.out.below hbr
    obtain ⟨A, c, hB, hS⟩ := hL.eyes
    have x0 := hB.at_ 0 _ rfl
    have x1 := hB.at_ 1 _ rfl
    have y0 := hBr.at_ 0 _ rfl
    have y1 := hBr.at_ 1 _ rfl
    have g0 := hBr.free 0
    have g1 := hBr.free 1
    have HL := Lib.hid hL; have HBr := Lib.hid hBr
    clear hL hBr
    clear hS hB hzr hbr
    go_wp2_with fail
    exact bodyPost_ret (v := .agg #[.int .i64 0, .string mt]) (by simp [results, Tryz.results123, go_sem, y0, y1, mt]) rfl ⟨⟨0, mt⟩, [], rfl, .inl ⟨rfl, rfl, rfl⟩, ⟨by decide, by decide⟩, by unfold okS mt; decide,
      (HL.out.set (p := ⟨W.heap.size, 0, none⟩) hws hb _).set (p := ⟨W.heap.size, 1, none⟩) hws hb _⟩
  | cons t r =>
    have HH := Lib.hid h
    clear h
    go_enter Tryz.func123, Tryz.ntmps123
    go_upto_region 1 with fail
    have hBr := Box.made W 182 #[.int .i64 0, .string ⟨#[]⟩]
    have hbr : Below W.heap.size W (W.alloc (.cells #[.int .i64 0, .string ⟨#[]⟩] 182)) := by go_grown
    have hzr : (W.alloc (.cells #[.int .i64 0, .string ⟨#[]⟩] 182)).heap.size = W.heap.size + 1 := by simp
    generalize W.alloc (.cells #[.int .i64 0, .string ⟨#[]⟩] 182) = W1 at hBr hbr hzr ⊢
    have hL := HH.out.below hbr
    have hne : W.heap.size ≠ b := by omega
    obtain ⟨A, c, hB, hS⟩ := hL.eyes
    obtain ⟨n, hn⟩ : ∃ n, r.length = n := ⟨_, rfl⟩
    rw [List.length_cons, hn] at hB hS
    obtain ⟨p, off, rfl, hFp, hk, htx, c0, c1⟩ := tok_head hS
    have hcap := (tok_cap hS).1
    have hnz : ((n : Int) + 1 == 0) = false := by simp; omega
    have h1n : (1 : Int) ≤ (n : Int) + 1 := by omega
    obtain ⟨kd, tx⟩ := t
    dsimp only at *
    have hrt : W.heap.size ≠ W1.heap.size := by omega
    clear hzr
    have x0 := hB.at_ 0 _ rfl
    have x1 := hB.at_ 1 _ rfl
    have g0 := hB.free 0
    have g1 := hB.free 1
    have HL := Lib.hid hL; have HBr := Lib.hid hBr; have HN := Lib.hid hn; have HB := Lib.hid hB; have HS := Lib.hid hS
    clear hL hBr hn hB hS
    clear hFp hbr
    go_upto_region 4 with fail
    have hBt := Box.made W1 182 #[.int .i64 kd, .string tx]
    have hbt : Below W1.heap.size W1 (W1.alloc (.cells #[.int .i64 kd, .string tx] 182)) := by go_grown
    have hzt : (W1.alloc (.cells #[.int .i64 kd, .string tx] 182)).heap.size = W1.heap.size + 1 := by simp
    generalize W1.alloc (.cells #[.int .i64 kd, .string tx] 182) = W2 at hBt hbt hzt ⊢
    have hL2 := HL.out.below hbt
    have hB2 := HB.out.later hbt HB.out.lt
    have hR2 := HBr.out.later hbt HBr.out.lt
    have hS2 := HS.out.stays TokenR.stays (fun _ h => h) (Keeps.of_below hbt (fun k hk => Nat.lt_trans (HL.out.foot k hk) HL.out.lt))
    clear x0 x1 g0 g1 c0 c1
    have x0 := hB2.at_ 0 _ rfl
    have x1 := hB2.at_ 1 _ rfl
    have g0 := hB2.free 0
    have g1 := hB2.free 1
    have y0 := hBt.at_ 0 _ rfl
    have y1 := hBt.at_ 1 _ rfl
    have z0 := hR2.at_ 0 _ rfl
    have z1 := hR2.at_ 1 _ rfl
    have q0 := hR2.free 0
    have q1 := hR2.free 1
    have hn1 : W1.heap.size ≠ b := by have := HL.out.lt; omega
    have HL2 := Lib.hid hL2; have HB2 := Lib.hid hB2; have HS2 := Lib.hid hS2; have HK := Lib.hid hk; have HTX := Lib.hid htx
    clear hL2 hB2 hS2 hk htx
    clear hBt hbt HB HS HL HBr hR2
    go_wp2_with fail
    all_goals
      refine bodyPost_ret (v := .agg #[.int .i64 kd, .string tx]) (by simp [results, Tryz.results123, go_sem, z0, z1]) rfl ?_
      refine ⟨⟨kd, tx⟩, r, rfl, .inr rfl, HK.out, HTX.out, ?_⟩
      refine Look.set (p := ⟨W.heap.size, 1, none⟩) (Look.set (p := ⟨W.heap.size, 0, none⟩) ?_ hws hb _) hws hb _
      first
        | exact Look.tail HL2.out HB2.out HS2.out HN.out _ (fun _ => rfl)
        | (have hc1 : c = 1 := (by assumption); subst hc1; exact Look.tail HL2.out HB2.out HS2.out HN.out _ (fun h => by omega))

set_option maxRecDepth 100000 in
set_option maxHeartbeats 2000000 in
theorem must_any {b : Nat} {F : Foot} {w W : World} {L : List Token} {d : Int} (h : Look b F w W L d) (s : ByteArray) :
    Calls Tryz.prog 125 #[.pointer (some ⟨b, 0, none⟩), .string s] W fun e w' => ∃ L', (e = .returned (.tuple #[]) ∧ prTake s L = some L' ∧ Look b F w w' L' d) ∨ (e = .panicked [faultV 4] ∧ prTake s L = none ∧ Look b F w w' L' d) := by
  have ht := take_any h s
  have HT := Lib.hid ht
  clear ht
  clear h
  go_enter Tryz.func125, Tryz.ntmps125
  go_wp2_with fail
  refine HT.out.mono ?_
  rintro e w' ⟨z, L', rfl, hT, hL⟩
  cases z with
  | false =>
    have hT := hT.no
    have HT2 := Lib.hid hT; have HL := Lib.hid hL
    clear hT hL
    go_wp2_with (first | (go_at_call 71; (with_reducible refine (need_yes _ _).mono ?_); rintro e w' ⟨rfl, rfl⟩) | (go_at_call 71; (with_reducible refine (need_no _ _).mono ?_); rintro e w' ⟨rfl, rfl⟩))
    exact ⟨rfl, L', .inr ⟨rfl, HT2.out.1, HL.out⟩⟩
  | true =>
    have hT := hT.yes
    have HT2 := Lib.hid hT; have HL := Lib.hid hL
    clear hT hL
    go_wp2_with (first | (go_at_call 71; (with_reducible refine (need_yes _ _).mono ?_); rintro e w' ⟨rfl, rfl⟩) | (go_at_call 71; (with_reducible refine (need_no _ _).mono ?_); rintro e w' ⟨rfl, rfl⟩))
    go_end0
    exact ⟨L', .inl ⟨rfl, HT2.out, HL.out⟩⟩

/-- What a reading that may fault gives. -/
def Gave {α : Type} (V : World → Foot → Value → α → Prop) (b : Nat) (F : Foot) (w W : World) (d : Int) (r : Except Int (α × List Token)) (e : Ending) (W' : World) : Prop :=
  (∃ x L' v, r = .ok (x, L') ∧ e = .returned v ∧ V W' (fresh W.heap.size W'.heap.size) v x ∧ Look b F w W' L' d) ∨ (∃ k L' d', r = .error k ∧ e = .panicked [faultV k] ∧ Look b F w W' L' d' ∧ d ≤ d' ∧ d' ≤ d + 1)
def StrV : World → Foot → Value → ByteArray → Prop := fun _ _ v s => v = .string s ∧ okS s
def UnitV : World → Foot → Value → Unit → Prop := fun _ _ v _ => v = .tuple #[]
def AggV {α : Type} (R : CR α) : World → Foot → Value → α → Prop := fun w F v x => ∃ cs, v = .agg cs.toArray ∧ R w F cs x

set_option maxRecDepth 100000 in
set_option maxHeartbeats 2000000 in
theorem name_any {b : Nat} {F : Foot} {w W : World} {L : List Token} {d : Int} (h : Look b F w W L d) (hb : b < w.heap.size) :
    Calls Tryz.prog 124 #[.pointer (some ⟨b, 0, none⟩)] W (Gave StrV b F w W d (prName L)) := by
  have ht := next_any h hb
  obtain ⟨R, hR⟩ : ∃ R, prName L = R := ⟨_, rfl⟩
  rw [hR]
  have HR := Lib.hid hR
  clear hR
  have hws := h.size
  have HT := Lib.hid ht
  clear ht
  clear h
  go_enter Tryz.func124, Tryz.ntmps124
  go_wp2_with fail
  refine HT.out.mono ?_
  rintro e W1 ⟨t, L', rfl, hN, hk, htx, hL⟩
  have hid := fun U => ident_any t.text U htx
  obtain ⟨z, hz⟩ : ∃ z, (nameOk t.text) = z := ⟨_, rfl⟩
  rw [hz] at hid
  have Z := Lib.hid hz; clear hz
  have HID := Lib.hid hid; have HN := Lib.hid hN; have HTX := Lib.hid htx
  clear hid hN htx
  go_upto_region 2 with fail
  have hBt := Box.made W1 182 #[.int .i64 t.kind, .string t.text]
  have hbt : Below W1.heap.size W1 (W1.alloc (.cells #[.int .i64 t.kind, .string t.text] 182)) := by go_grown
  have hzt : (W1.alloc (.cells #[.int .i64 t.kind, .string t.text] 182)).heap.size = W1.heap.size + 1 := by simp
  generalize W1.alloc (.cells #[.int .i64 t.kind, .string t.text] 182) = W2 at hBt hbt hzt ⊢
  have hL2 := hL.below hbt
  have x0 := hBt.at_ 0 _ rfl
  have x1 := hBt.at_ 1 _ rfl
  have HL := Lib.hid hL2; have HB := Lib.hid hBt
  clear hL2 hBt
  clear hbt hzt hL
  have hbad : ¬ (t.kind = 1 ∧ z = true) → R = .error 4 := fun hn => by
    rw [← HR.out]
    rcases HN.out with ⟨rfl, _, _⟩ | rfl
    · rfl
    · rw [prName_cons, if_neg (by rw [Z.out]; exact hn)]
  have hgood : (t.kind = 1 ∧ z = true) → R = .ok (t.text, L') := fun hn => by
    rw [← HR.out]
    rcases HN.out with ⟨rfl, rfl, _⟩ | rfl
    · exact absurd hn.1 (by decide)
    · rw [prName_cons, if_pos (by rw [Z.out]; exact hn)]
  have HBAD := Lib.hid hbad; have HGOOD := Lib.hid hgood
  clear hbad hgood
  cases hq : (t.kind == 1) with
  | false =>
    have HQ := Lib.hid hq
    go_wp2_with (first | (go_at_call 71; (with_reducible refine (need_yes _ _).mono ?_); rintro e w' ⟨rfl, rfl⟩) | (go_at_call 71; (with_reducible refine (need_no _ _).mono ?_); rintro e w' ⟨rfl, rfl⟩))
    exact ⟨rfl, .inr ⟨4, L', d, HBAD.out (fun h => by have := HQ.out; simp at this; exact this h.1), rfl, HL.out, Int.le_refl _, by omega⟩⟩
  | true =>
    have HQ := Lib.hid hq
    cases z with
    | false =>
      go_wp2_with (first | (go_at_call 61; (with_reducible refine (HID.out _).mono ?_); rintro e W3 ⟨rfl, hb3⟩; have HL3 := Lib.hid (HL.out.below hb3); clear hb3) | (go_at_call 71; (with_reducible refine (need_no _ _).mono ?_); rintro e w' ⟨rfl, rfl⟩))
      exact ⟨rfl, .inr ⟨4, L', d, HBAD.out (fun h => by cases h.2), rfl, HL3.out, Int.le_refl _, by omega⟩⟩
    | true =>
      go_wp2_with (first | (go_at_call 61; (with_reducible refine (HID.out _).mono ?_); rintro e W3 ⟨rfl, hb3⟩; have HL3 := Lib.hid (HL.out.below hb3); have hB3 := HB.out.later hb3 HB.out.lt; have HB3 := Lib.hid hB3; have y1 := hB3.at_ 1 _ rfl; clear hb3 hB3) | (go_at_call 71; (with_reducible refine (need_yes _ _).mono ?_); rintro e w' ⟨rfl, rfl⟩))
      go_ret
      exact .inl ⟨t.text, L', _, HGOOD.out ⟨by simpa using HQ.out, (by first | rfl | trivial)⟩, rfl, ⟨rfl, HTX.out⟩, HL3.out⟩

end Go.Proofs.YtjaladhdnbhliaaGreatDoor

/- How deep the program's reader is: (*tree.reader).deeper, and the way back. -/
namespace Go.Proofs.YtjaladhdnbhliaaGreatDoor
open Go.RowKit Go.Shelf

/-- The cell of a captured pointer to the reader. -/
abbrev HeldT (W : World) (q b : Nat) : Prop := Box W q 139 #[.pointer (some ⟨b, 0, none⟩)]

theorem Look.depth {b : Nat} {F : Foot} {w W : World} {L : List Token} {d : Int} (h : Look b F w W L d) (d' : Int) : Look b F w (W.setCell ⟨b, 1, none⟩ (.int .i64 d')) L d' := by
  obtain ⟨A, c, hB, hS⟩ := h.eyes
  refine ⟨⟨A, c, ?_, hS.stays TokenR.stays (fun _ h => h) ((Keeps.refl _ _).setCell (fun hF => Nat.lt_irrefl _ (h.foot _ hF)) _)⟩, h.grew.trans_ (Grew.cell_ _ _ _), h.foot, h.fine⟩
  have := hB.put 1 (.int .i64 d')
  simpa using this
theorem Look.at1 {b : Nat} {F : Foot} {w W : World} {L : List Token} {d : Int} (h : Look b F w W L d) : W.cell? ⟨b, 1, none⟩ = some (.int .i64 d) := by
  obtain ⟨A, c, hB, _⟩ := h.eyes
  exact hB.at_ 1 _ rfl
theorem Look.free1 {b : Nat} {F : Foot} {w W : World} {L : List Token} {d : Int} (h : Look b F w W L d) (i : Nat) : W.frozen? ⟨b, i, none⟩ = false := by
  obtain ⟨A, c, hB, _⟩ := h.eyes
  exact hB.free i

def WentDeeper (b : Nat) (F : Foot) (w W : World) (L : List Token) (d : Int) (e : Ending) (w' : World) : Prop :=
  (d < 40 ∧ ∃ q, e = .returned (.func (.func 247) #[] #[.pointer (some ⟨q, 0, none⟩)]) ∧ HeldT w' q b ∧ W.heap.size ≤ q ∧ Look b F w w' L (d + 1)) ∨ (40 ≤ d ∧ e = .panicked [faultV 1] ∧ Look b F w w' L (d + 1))

set_option maxRecDepth 100000 in
set_option maxHeartbeats 2000000 in
theorem deeper_any {b : Nat} {F : Foot} {w W : World} {L : List Token} {d : Int} (h : Look b F w W L d) (h0 : 0 ≤ d) (h1 : d ≤ 1000) :
    Calls Tryz.prog 196 #[.pointer (some ⟨b, 0, none⟩)] W (WentDeeper b F w W L d) := by
  have hmf : ∀ (fn : Fn) (first cap : Array Value) (w : World), (Instr.makeFunc fn first cap).run Tryz.prog w = .ok (.func fn first cap) w := fun _ _ _ _ => rfl
  have HH := Lib.hid h
  clear h
  go_enter Tryz.func196, Tryz.ntmps196
  go_upto_region 1 with fail
  have hBq := Box.made W 139 #[.pointer (some ⟨b, 0, none⟩)]
  have hbq : Below W.heap.size W (W.alloc (.cells #[.pointer (some ⟨b, 0, none⟩)] 139)) := by go_grown
  have hzq : (W.alloc (.cells #[.pointer (some ⟨b, 0, none⟩)] 139)).heap.size = W.heap.size + 1 := by simp
  generalize W.alloc (.cells #[.pointer (some ⟨b, 0, none⟩)] 139) = W1 at hBq hbq hzq ⊢
  have hL := HH.out.below hbq
  have hne : W.heap.size ≠ b := by have := HH.out.lt; omega
  have x1 := hL.at1
  have g1 := hL.free1 1
  have y0 := hBq.at_ 0 _ rfl
  have HL := Lib.hid hL; have HB := Lib.hid hBq
  clear hL hBq
  clear hbq hzq
  by_cases hd : d < 40
  · have hdz : d + 1 ≤ 40 := by omega
    go_wp2_with (first | (go_at_call 71; (with_reducible refine (need_yes _ _).mono ?_); rintro e w' ⟨rfl, rfl⟩))
    go_ret
    exact .inl ⟨hd, _, rfl, HB.out.far (by simpa using hne) _, Nat.le_refl _, HL.out.depth _⟩
  · have hdz : ¬ d + 1 ≤ 40 := by omega
    go_wp2_with (first | (go_at_call 71; (with_reducible refine (need_no _ _).mono ?_); rintro e w' ⟨rfl, rfl⟩))
    exact ⟨rfl, .inr ⟨by omega, rfl, HL.out.depth _⟩⟩

set_option maxRecDepth 100000 in
set_option maxHeartbeats 2000000 in
theorem shallower_any {b q : Nat} {F : Foot} {w W : World} {L : List Token} {d : Int} (u : FrameMode) (h : Look b F w W L d) (hq : HeldT W q b) (h0 : 0 ≤ d) (h1 : d ≤ 1000) :
    CallsD Tryz.prog 247 #[.pointer (some ⟨q, 0, none⟩)] u W fun e u' w' => u' = u ∧ (e = .returned (.tuple #[]) ∧ w' = W.setCell ⟨b, 1, none⟩ (.int .i64 (d - 1))) := by
  have x1 := h.at1
  have g1 := h.free1 1
  have y0 := hq.at_ 0 _ rfl
  clear h hq
  go_enter_d Tryz.func247, Tryz.ntmps247
  go_wp2
  go_end0
  exact ⟨rfl, rfl⟩

/-- The door of a function that has gone deeper. -/
theorem door_deeper {fn : Go.Func} {tmps : Array Value} {R : Ending → World → Prop} {b q : Nat} {F : Foot} {w W : World} {L : List Token} {d k : Int} (h : Look b F w W L d) (hq : HeldT W q b) (h0 : 0 ≤ d) (h1 : d ≤ 1000)
    (hr : Look b F w (W.setCell ⟨b, 1, none⟩ (.int .i64 (d - 1))) L (d - 1) → R (.panicked [faultV k]) (W.setCell ⟨b, 1, none⟩ (.int .i64 (d - 1)))) :
    Leaves Tryz.prog fn tmps R [{ target := .fn (.func 247) #[.pointer (some ⟨q, 0, none⟩)], args := #[] }] (.panicking [faultV k]) W := by
  refine leaves_cons (f := 247) (args := #[.pointer (some ⟨q, 0, none⟩)]) (by simp) (by simp [go_sem]) ?_
  refine (shallower_any _ h hq h0 h1).mono ?_
  rintro e u' w' ⟨rfl, rfl, rfl⟩
  exact hr (h.depth _)
theorem door_deeper_fine {fn : Go.Func} {tmps : Array Value} {R : Ending → World → Prop} {b q : Nat} {F : Foot} {w W : World} {L : List Token} {d : Int} (h : Look b F w W L d) (hq : HeldT W q b) (h0 : 0 ≤ d) (h1 : d ≤ 1000)
    (hr : Look b F w (W.setCell ⟨b, 1, none⟩ (.int .i64 (d - 1))) L (d - 1) → ∃ v, (results fn tmps).run Tryz.prog (W.setCell ⟨b, 1, none⟩ (.int .i64 (d - 1))) = .ok v (W.setCell ⟨b, 1, none⟩ (.int .i64 (d - 1))) ∧ R (.returned v) (W.setCell ⟨b, 1, none⟩ (.int .i64 (d - 1)))) :
    Leaves Tryz.prog fn tmps R [{ target := .fn (.func 247) #[.pointer (some ⟨q, 0, none⟩)], args := #[] }] .returning W := by
  refine leaves_cons (f := 247) (args := #[.pointer (some ⟨q, 0, none⟩)]) (by simp) (by simp [go_sem]) ?_
  refine (shallower_any _ h hq h0 h1).mono ?_
  rintro e u' w' ⟨rfl, rfl, rfl⟩
  exact hr (h.depth _)

/-- Where a function stands that has gone deeper: its result's block, the captured pointer's. -/
structure Room (b : Nat) (F : Foot) (W : World) (rt : TypeId) (rc : Array Value) (q : Nat) (W' : World) (L : List Token) (d : Int) : Prop where
  look : Look b F W W' L d
  res : Box W' W.heap.size rt rc
  held : HeldT W' q b
  far : W.heap.size < q
  lt : b < W.heap.size
section
variable {b : Nat} {F : Foot} {W : World} {rt : TypeId} {rc : Array Value} {q : Nat} {W' W2 : World} {L L2 : List Token} {d d2 : Int}
theorem Room.go (h : Room b F W rt rc q W' L d) (k : Look b F W' W2 L2 d2) : Room b F W rt rc q W2 L2 d2 :=
  ⟨h.look.trans k, k.grew.box_ h.res (by have := h.lt; omega), k.grew.box_ h.held (by have := h.lt; have := h.far; omega), h.far, h.lt⟩
theorem Room.below (h : Room b F W rt rc q W' L d) (hb : Below W'.heap.size W' W2) : Room b F W rt rc q W2 L d :=
  ⟨h.look.below hb, h.res.later hb h.res.lt, h.held.later hb h.held.lt, h.far, h.lt⟩
theorem Room.set (h : Room b F W rt rc q W' L d) (i : Nat) (u : Value) : Room b F W rt (rc.setIfInBounds i u) q (W'.setCell ⟨W.heap.size, i, none⟩ u) L d :=
  ⟨h.look.set (Nat.le_refl _) h.lt u, h.res.put i u, h.held.far (by have := h.far; show q ≠ W.heap.size; omega) u, h.far, h.lt⟩
theorem Room.start (h : Room b F W rt rc q W' L d) : Look b F W' W' L d := h.look.start
/-- It leaves by a fault. -/
theorem Room.out {α : Type} {V : World → Foot → Value → α → Prop} {fn : Go.Func} {tmps : Array Value} {r : Except Int (α × List Token)} {d0 k : Int} (h : Room b F W rt rc q W' L d) (hr : r = .error k) (h0 : 0 ≤ d0) (h1 : d0 + 1 ≤ d) (h2 : d ≤ d0 + 2) (h3 : d0 ≤ 100) :
    Leaves Tryz.prog fn tmps (Gave V b F W W d0 r) [{ target := .fn (.func 247) #[.pointer (some ⟨q, 0, none⟩)], args := #[] }] (.panicking [faultV k]) W' :=
  door_deeper h.look h.held (by omega) (by omega) fun hl => .inr ⟨k, L, d - 1, hr, rfl, hl, by omega, by omega⟩
end

end Go.Proofs.YtjaladhdnbhliaaGreatDoor

/- A list of expressions that is next: (*tree.reader).list. -/
namespace Go.Proofs.YtjaladhdnbhliaaGreatDoor
open Go.RowKit Go.Shelf

/-- What expr gives, where it may nest so deep. -/
def ExGives (b : Nat) (F : Foot) (f : Nat) : Prop := ∀ (W : World) (L : List Token) (d : Int), Look b F W W L d → L.length ≤ 200 → d + f = 40 → 0 ≤ d →
  Calls Tryz.prog 197 #[.pointer (some ⟨b, 0, none⟩)] W (Gave (AggV ExR) b F W W d (prExpr f L))
def SlV {α : Type} (R : CR α) (sz by_ : Nat) : World → Foot → Value → List α → Prop := fun w F v l => SliceOf R sz by_ w F v l

theorem rex_len {w : World} {F : Foot} {cs : List Value} {x : Ex} (h : ExR w F cs x) : cs.length = 5 := by
  obtain ⟨A, c, rfl⟩ := ExR.form h
  rfl
theorem rex_cells {w : World} {F : Foot} {cs : List Value} {x : Ex} (h : ExR w F cs x) : ∀ u ∈ cs, u.oneCell' = true := by
  obtain ⟨A, c, rfl⟩ := ExR.form h
  intro u hu
  simp only [List.mem_cons, List.not_mem_nil, or_false] at hu
  rcases hu with rfl | rfl | rfl | rfl | rfl <;> rfl
/-- A list of one, just built. -/
theorem Owns.one {α : Type} {R : CR α} {sz base g : Nat} {e : TypeId} {F : Foot} {w : World} {cs : List Value} {x : α} (hB : Box w g e cs.toArray) (hg : base ≤ g) (hc : cs.length = sz) (hR : R w F cs x) (hF : ∀ k, F k → k < w.heap.size ∧ k ≠ g) :
    Owns R sz e base w F (.slice (some ⟨g, 0, none⟩) 1 1) [x] :=
  ⟨cs, ⟨by simp [hc], .inr ⟨g, 1, cs.toArray, rfl, hg, hB, Nat.le_refl _, by unfold maxLen; decide, by simp [hc], by rw [List.length_singleton, Nat.one_mul, ← hc]; simp⟩⟩, RowsR.one hc hR, fun k hk => ⟨(hF k hk).1, fun e => (hF k hk).2 (by injection e)⟩⟩

set_option maxRecDepth 100000 in
set_option maxHeartbeats 4000000 in
theorem rlist_any {b : Nat} {F : Foot} {f : Nat} (hx : ExGives b F f) (W : World) (L : List Token) (d : Int) (s : ByteArray) (h : Look b F W W L d) (hl : L.length ≤ 200) (hd : d + f = 40) (h0 : 0 ≤ d) :
    Calls Tryz.prog 281 #[.pointer (some ⟨b, 0, none⟩), .string s] W (Gave (SlV ExR 5 72) b F W W d (prList (prExpr f) s L)) := by
  obtain ⟨R, hR⟩ : ∃ R, prList (prExpr f) s L = R := ⟨_, rfl⟩
  rw [hR]
  have hbl := h.lt
  have hcx := hx W L d h hl hd h0
  have HX := Lib.hid hx; have HR := Lib.hid hR; have HH := Lib.hid h; have HCX := Lib.hid hcx
  clear hx hR h hcx
  go_enter Tryz.func281, Tryz.ntmps281
  go_wp2_with fail
  refine HCX.out.mono ?_
  rintro e W1 (⟨x, L1, v, hx1, rfl, ⟨cs, rfl, hX⟩, hl1⟩ | ⟨k, L1, d1, hx1, rfl, hl1, h1, h2⟩)
  rotate_left
  · have hx' : R = .error k := by rw [← HR.out]; exact prThen_err hx1
    have HL1 := Lib.hid hl1; have HX1 := Lib.hid hx'
    clear hl1 hx'
    go_wp2_with fail
    exact ⟨rfl, .inr ⟨k, L1, d1, HX1.out, rfl, HL1.out, h1, h2⟩⟩
  have hs1 := short_expr f _ _ _ hx1
  have hR1 : R = prThen (fun l => prMore (prExpr f) l.length [x] l) (fun xs => prThen (prMust s) fun _ => prPure xs) L1 := by rw [← HR.out]; exact prThen_ok hx1
  obtain ⟨M, hM⟩ : ∃ M, prMore (prExpr f) L1.length [x] L1 = M := ⟨_, rfl⟩
  have hme : ∀ k, M = .error k → R = .error k := fun k hk => by rw [hR1]; exact prThen_err (hM.trans hk)
  have hmo : ∀ xs L2, M = .ok (xs, L2) → R = prThen (prMust s) (fun _ => prPure xs) L2 := fun xs L2 hk => by rw [hR1]; exact prThen_ok (hM.trans hk)
  obtain ⟨A, c, rfl⟩ := ExR.form hX
  have HME := Lib.hid hme; have HMO := Lib.hid hmo; have HM := Lib.hid hM; have HXR := Lib.hid hX; have HL1 := Lib.hid hl1
  clear hme hmo hM hX hl1
  clear hR1 hx1
  go_wp2_with fail
  have hBb := Box.made W1 81 #[.int .i64 x.kind, .int .i64 x.n, .string x.of_, .string x.s, .slice A x.args.length c]
  have hbb : Below W1.heap.size W1 (W1.alloc (.cells #[.int .i64 x.kind, .int .i64 x.n, .string x.of_, .string x.s, .slice A x.args.length c] 81)) := by go_grown
  have hzb : (W1.alloc (.cells #[.int .i64 x.kind, .int .i64 x.n, .string x.of_, .string x.s, .slice A x.args.length c] 81)).heap.size = W1.heap.size + 1 := by simp
  generalize W1.alloc (.cells #[.int .i64 x.kind, .int .i64 x.n, .string x.of_, .string x.s, .slice A x.args.length c] 81) = W2 at hBb hbb hzb ⊢
  have hw1 := HL1.out.size
  have hO : Owns ExR 5 81 W.heap.size W2 (fresh W.heap.size W1.heap.size) (.slice (some ⟨W1.heap.size, 0, none⟩) 1 1) [x] :=
    Owns.one (cs := [.int .i64 x.kind, .int .i64 x.n, .string x.of_, .string x.s, .slice A x.args.length c]) hBb hw1 rfl (ExR.stays.later HXR.out hbb fresh_lt) (fun k hk => ⟨by have := hk.2; have := hbb.size; omega, by have := hk.2; omega⟩)
  have hL2 := HL1.out.below hbb
  have HO := Lib.hid hO; have HL2 := Lib.hid hL2
  clear hO hL2
  clear hBb hbb hzb
  go_loopg [5] L1.length (fun gg s5 wr => ∃ (m c : Nat) (A : Option Addr) (xs : List Ex) (L2 : List Token) (G : Foot), s5 = .slice A xs.length c ∧ L2.length ≤ gg ∧ L2.length ≤ m ∧ xs.length + L2.length ≤ 201 ∧ Aside (M = prMore (prExpr f) m xs L2) ∧ Aside (Look b F W wr L2 d) ∧
    Aside (Owns ExR 5 81 W.heap.size wr G (.slice A xs.length c) xs) ∧ Aside (∀ k, G k → W.heap.size ≤ k))
  case atStart => exact ⟨L1.length, 1, _, [x], L1, _, rfl, Nat.le_refl _, Nat.le_refl _, by rw [List.length_singleton]; omega, aside HM.out.symm, aside HL2.out, aside HO.out, aside (fun k hk => hk.1)⟩
  case round =>
    obtain ⟨m, c3, A3, xs, L2, G, rfl, hg, hm, h201, hM, hLk, hO3, hG⟩ := hrel
    obtain ⟨W3, rfl⟩ : ∃ W, W = wr := ⟨_, rfl⟩
    have htk := take_any hLk.out.start sComma
    have HTK := Lib.hid htk
    clear htk
    go_wp2_with fail
    refine HTK.out.mono ?_
    rintro e W4 ⟨z, L4, rfl, hT, hl4⟩
    have hl4' := hLk.out.trans hl4
    have hO4 := hO3.out.read ExR.stays hl4.grew hbl hG.out
    cases z with
    | true =>
      have hT := hT.yes
      have ht4 := take_len hT
      have hcx := HX.out W4 L4 d hl4.start (by omega) hd h0
      have hrow : ∀ k, (Value.slice A3 xs.length c3).ownBlock = some k → k < W4.heap.size := fun k hk => (hO4.row hk).2
      have HT := Lib.hid hT; have HCX2 := Lib.hid hcx; have HO4 := Lib.hid hO4; have HL4 := Lib.hid hl4'; have HROW := Lib.hid hrow; have HM3 := Lib.hid hM; have HG := Lib.hid hG
      clear hT hcx hO4 hl4' hrow hM hG
      clear hl4 hO3 hLk HTK
      go_wp2_with fail
      refine HCX2.out.mono ?_
      rintro e W5 (⟨y, L5, v, hx1, rfl, ⟨cs, rfl, hY⟩, hl5⟩ | ⟨k, L5, d5, hx1, rfl, hl5, h1, h2⟩)
      · have hs5 := short_expr f _ _ _ hx1
        have hm2 := HM3.out.trans (more_ok HT.out hm hx1)
        have hO5 := HO4.out.read ExR.stays hl5.grew hbl HG.out
        have hl5' := HL4.out.trans hl5
        have h45 := hl5.size
        obtain ⟨A5, c5, rfl⟩ := ExR.form hY
        have hw4 := HL4.out.size
        have HM5 := Lib.hid hm2; have HYR := Lib.hid hY; have HO5 := Lib.hid hO5; have HL5 := Lib.hid hl5'
        clear hm2 hY hO5 hl5'
        clear hl5 hx1 HL4 HO4
        go_wp2_with (at_builtin; go_must ((refine wpList_push ExR.stays (.agg #[.int .i64 0, .int .i64 0, .string ⟨#[]⟩, .string ⟨#[]⟩, .slice none 0 0]) [.int .i64 y.kind, .int .i64 y.n, .string y.of_, .string y.s, .slice A5 y.args.length c5] y rfl rfl Tryz.underlying79 (bytes := 72) (by kernel_rfl) HO5.out rfl rfl (by decide) rfl rfl HYR.out (rex_cells HYR.out) (fun k hk => ⟨hk.2, fun e => by have := HROW.out k e.symm; have := hk.1; omega⟩) (by unfold maxLen; omega) (by omega) (by omega) ?_); (intro A6 c6 W7 hO6 hgr _; have HL6 := Lib.hid (HL5.out.then_ hgr hbl); have HO6 := Lib.hid hO6; clear hO6 hgr)))
        go_roundg L5.length
        case measure => have := take_len HT.out; omega
        case rel =>
          have := take_len HT.out
          exact ⟨m - 1, c6, A6, xs ++ [y], L5, (fun k => G k ∨ fresh W4.heap.size W5.heap.size k), by simp, Nat.le_refl _, by omega, by rw [List.length_append, List.length_singleton]; omega, aside HM5.out, aside HL6.out, aside (by simpa using HO6.out), aside (fun k hk => hk.elim (HG.out k) (fun h => by have := h.1; omega))⟩
      · have hx' : R = .error k := HME.out _ (HM3.out.trans (more_err HT.out hm hx1))
        have hl5' := HL4.out.trans hl5
        have HL5 := Lib.hid hl5'; have HX5 := Lib.hid hx'
        clear hl5' hx'
        clear hl5 hx1
        go_wp2_with fail
        exact ⟨rfl, .inr ⟨k, L5, d5, HX5.out, rfl, HL5.out, h1, h2⟩⟩
    | false =>
      obtain ⟨hT, rfl⟩ := hT.no
      have hx' := HMO.out _ _ (hM.out.trans (more_stop hT))
      have hms := must_any hl4.start s
      have HX4 := Lib.hid hx'; have HMS := Lib.hid hms; have HL4 := Lib.hid hl4'; have HO4 := Lib.hid hO4
      clear hx' hms hl4' hO4
      clear hl4 hO3 hLk HTK hT hM
      go_wp2_with fail
      refine HMS.out.mono ?_
      rintro e W5 ⟨L5, (⟨rfl, hm5, hl5⟩ | ⟨rfl, hm5, hl5⟩)⟩
      · have hx5 : R = .ok (xs, L5) := HX4.out.trans (prThen_ok (prMust_yes hm5))
        have hO5 := HO4.out.read ExR.stays hl5.grew hbl hG.out
        have hl5' := HL4.out.trans hl5
        have HX5 := Lib.hid hx5; have HO5 := Lib.hid hO5; have HL5 := Lib.hid hl5'
        clear hx5 hO5 hl5'
        clear hl5 hm5
        go_wp2_with fail
        go_ret
        exact .inl ⟨xs, L5, _, HX5.out, rfl, HO5.out.slice ExR.stays (fun k hk => ⟨hG.out k hk, (HO5.out.foot hk).1⟩) (fun k h1 h2 => ⟨h1, h2⟩) (by omega) (by omega), HL5.out⟩
      · have hx5 : R = .error 4 := HX4.out.trans (prThen_err (prMust_no hm5))
        have hl5' := HL4.out.trans hl5
        have HX5 := Lib.hid hx5; have HL5 := Lib.hid hl5'
        clear hx5 hl5'
        clear hl5 hm5
        go_wp2_with fail
        exact ⟨rfl, .inr ⟨4, L5, d, HX5.out, rfl, HL5.out, Int.le_refl _, by omega⟩⟩

end Go.Proofs.YtjaladhdnbhliaaGreatDoor

/- A parameter, or a call: (*tree.reader).named. -/
namespace Go.Proofs.YtjaladhdnbhliaaGreatDoor
open Go.RowKit Go.Shelf

/-- Where a function stands: the reader, its result's block, a variable's block. -/
structure Duo (b : Nat) (F : Foot) (W : World) (q : Nat) (rc xc : Array Value) (W' : World) (L : List Token) (d : Int) : Prop where
  look : Look b F W W' L d
  res : Box W' W.heap.size 81 rc
  own : Box W' q 81 xc
  far : W.heap.size < q
  lt : b < W.heap.size
section
variable {b : Nat} {F : Foot} {W : World} {q : Nat} {rc xc : Array Value} {W' W2 : World} {L L2 : List Token} {d d2 : Int}
theorem Duo.go (h : Duo b F W q rc xc W' L d) (k : Look b F W' W2 L2 d2) : Duo b F W q rc xc W2 L2 d2 :=
  ⟨h.look.trans k, k.grew.box_ h.res (by have := h.lt; omega), k.grew.box_ h.own (by have := h.lt; have := h.far; omega), h.far, h.lt⟩
theorem Duo.below (h : Duo b F W q rc xc W' L d) (hb : Below W'.heap.size W' W2) : Duo b F W q rc xc W2 L d :=
  ⟨h.look.below hb, h.res.later hb h.res.lt, h.own.later hb h.own.lt, h.far, h.lt⟩
theorem Duo.setR (h : Duo b F W q rc xc W' L d) (i : Nat) (u : Value) : Duo b F W q (rc.setIfInBounds i u) xc (W'.setCell ⟨W.heap.size, i, none⟩ u) L d :=
  ⟨h.look.set (Nat.le_refl _) h.lt u, h.res.put i u, h.own.far (by have := h.far; show q ≠ W.heap.size; omega) u, h.far, h.lt⟩
theorem Duo.setX (h : Duo b F W q rc xc W' L d) (i : Nat) (u : Value) : Duo b F W q rc (xc.setIfInBounds i u) (W'.setCell ⟨q, i, none⟩ u) L d :=
  ⟨h.look.set (Nat.le_of_lt h.far) h.lt u, h.res.far (by have := h.far; show W.heap.size ≠ q; omega) u, h.own.put i u, h.far, h.lt⟩
end
theorem rex_I64 : I64 0 ∧ I64 1 ∧ I64 2 ∧ I64 3 ∧ I64 4 ∧ I64 5 ∧ I64 6 ∧ I64 7 := by
  unfold I64; decide
/-- An expression of a list of arguments. -/
theorem rex_args {w : World} {F : Foot} {k n : Int} {o s : ByteArray} {v : Value} {xs : List Ex} (hk : I64 k) (hn : I64 n) (ho : okS o) (hs : okS s) (h : SliceOf ExR 5 72 w F v xs) : ExR w F [.int .i64 k, .int .i64 n, .string o, .string s, v] (.mk k n o s xs) := by
  have h2 : ∃ m, SliceOf (ExRn m) 5 72 w F v xs := by
    obtain ⟨A, cap, rfl, h1, h2, h3, h3', h4⟩ := h
    have hmono : ∀ m m' cs (y : Ex), m ≤ m' → ExRn m w F cs y → ExRn m' w F cs y := by
      intro m
      induction m with
      | zero => intro m' cs y _ h; exact h.elim
      | succ m ih =>
        intro m' cs y hm h
        cases m' with
        | zero => omega
        | succ m' =>
          obtain ⟨av, h, a, b, c, d, e⟩ := h
          refine ⟨av, h, a, b, c, d, ?_⟩
          obtain ⟨A, cap, rfl, k1, k2, k3, k3', k4⟩ := e
          refine ⟨A, cap, rfl, k1, k2, k3, k3', fun hl => ?_⟩
          obtain ⟨p, off, hA, hb, hx⟩ := k4 hl
          refine ⟨p, off, hA, hb, fun i z hi => ?_⟩
          obtain ⟨cs, hc, hr, hcell⟩ := hx i z hi
          exact ⟨cs, hc, ih _ _ _ (by omega) hr, hcell⟩
    by_cases hl : 0 < xs.length
    · obtain ⟨p, off, hA, hb, hx⟩ := h4 hl
      have hex : ∀ i, ∃ m, ∀ y, xs[i]? = some y → ∃ cs : List Value, cs.length = 5 ∧ ExRn m w F cs y ∧ ∀ j u, cs[j]? = some u → w.cell? ⟨p, off + i * 5 + j, none⟩ = some u := fun i => by
        cases hi : xs[i]? with
        | none => exact ⟨0, fun y h => by cases h⟩
        | some y =>
          obtain ⟨cs, hc, ⟨m, hr⟩, hcell⟩ := hx i y hi
          exact ⟨m, fun z h => by cases h; exact ⟨cs, hc, hr, hcell⟩⟩
      obtain ⟨g, hg⟩ := Classical.axiomOfChoice hex
      have hmax : ∀ n, ∃ M, ∀ i, i < n → g i ≤ M := by
        intro n
        induction n with
        | zero => exact ⟨0, fun i h => by omega⟩
        | succ n ih =>
          obtain ⟨M, hM⟩ := ih
          exact ⟨M + g n, fun i h => by
            by_cases e : i = n
            · subst e; omega
            · have := hM i (by omega); omega⟩
      obtain ⟨M, hM⟩ := hmax xs.length
      refine ⟨M, A, cap, rfl, h1, h2, h3, h3', fun _ => ⟨p, off, hA, hb, fun i y hi => ?_⟩⟩
      obtain ⟨cs, hc, hr, hcell⟩ := hg i y hi
      exact ⟨cs, hc, hmono _ _ _ _ (hM i (List.getElem?_eq_some_iff.1 hi).1) hr, hcell⟩
    · exact ⟨0, A, cap, rfl, h1, h2, h3, h3', fun h => absurd h hl⟩
  obtain ⟨m, h⟩ := h2
  exact ⟨m + 1, v, rfl, hk, hn, ho, hs, h⟩

set_option maxRecDepth 100000 in
set_option maxHeartbeats 4000000 in
theorem rnamed_any {b : Nat} {F : Foot} {f : Nat} (hx : ExGives b F f) (W : World) (L : List Token) (d : Int) (s : ByteArray) (hs : okS s) (h : Look b F W W L d) (hl : L.length ≤ 200) (hd : d + f = 40) (h0 : 0 ≤ d) :
    Calls Tryz.prog 282 #[.pointer (some ⟨b, 0, none⟩), .string s] W (Gave (AggV ExR) b F W W d (prNamed (prExpr f) s L)) := by
  obtain ⟨R, hR⟩ : ∃ R, prNamed (prExpr f) s L = R := ⟨_, rfl⟩
  rw [hR]
  have hbl := h.lt
  have HX := Lib.hid hx; have HR := Lib.hid hR; have HH := Lib.hid h; have HS := Lib.hid hs
  clear hx hR h hs
  go_enter Tryz.func282, Tryz.ntmps282
  go_upto_region 2 with fail
  have hBr1 := ((Box.made W 81 #[.int .i64 0, .int .i64 0, .string ⟨#[]⟩, .string ⟨#[]⟩, .slice none 0 0]).alloc (.cells #[.int .i64 4, .int .i64 0, .string ⟨#[]⟩, .string s, .slice none 0 0] 81))
  have hBr2 := (Box.made (W.alloc (.cells #[.int .i64 0, .int .i64 0, .string ⟨#[]⟩, .string ⟨#[]⟩, .slice none 0 0] 81)) 81 #[.int .i64 4, .int .i64 0, .string ⟨#[]⟩, .string s, .slice none 0 0])
  rw [show (W.alloc (.cells #[.int .i64 0, .int .i64 0, .string ⟨#[]⟩, .string ⟨#[]⟩, .slice none 0 0] 81)).heap.size = W.heap.size + 1 by simp only [World.size_alloc]] at hBr2
  have hbr : Below W.heap.size W ((W.alloc (.cells #[.int .i64 0, .int .i64 0, .string ⟨#[]⟩, .string ⟨#[]⟩, .slice none 0 0] 81)).alloc (.cells #[.int .i64 4, .int .i64 0, .string ⟨#[]⟩, .string s, .slice none 0 0] 81)) := by go_grown
  have hzr : ((W.alloc (.cells #[.int .i64 0, .int .i64 0, .string ⟨#[]⟩, .string ⟨#[]⟩, .slice none 0 0] 81)).alloc (.cells #[.int .i64 4, .int .i64 0, .string ⟨#[]⟩, .string s, .slice none 0 0] 81)).heap.size = W.heap.size + 1 + 1 := by simp only [World.size_alloc]
  generalize (W.alloc (.cells #[.int .i64 0, .int .i64 0, .string ⟨#[]⟩, .string ⟨#[]⟩, .slice none 0 0] 81)).alloc (.cells #[.int .i64 4, .int .i64 0, .string ⟨#[]⟩, .string s, .slice none 0 0] 81) = W1 at hBr1 hBr2 hbr hzr ⊢
  have hd1 : Duo b F W (W.heap.size + 1) _ _ W1 L d := ⟨HH.out.below hbr, hBr1, hBr2, by omega, hbl⟩
  have htk := take_any hd1.look.start sDot
  have HD1 := Lib.hid hd1; have HTK := Lib.hid htk
  clear hd1 htk
  clear hBr1 hBr2 hbr hzr
  go_wp2_with fail
  refine HTK.out.mono ?_
  rintro e W2 ⟨z, L2, rfl, hT, hl2⟩
  have hd2 := HD1.out.go hl2
  have HD2 := Lib.hid hd2
  clear hd2
  clear hl2
  go_upto_if 9 with (fail)
  go_cut [] (fun wc => ∃ (L' : List Token) (o nm : ByteArray), L'.length ≤ 200 ∧ okS o ∧ okS nm ∧ Aside (R = prArgs (prExpr f) o nm L') ∧ Aside (Duo b F W (W.heap.size + 1) #[.int .i64 0, .int .i64 0, .string ⟨#[]⟩, .string ⟨#[]⟩, .slice none 0 0] #[.int .i64 4, .int .i64 0, .string o, .string nm, .slice none 0 0] wc L' d))
  case first =>
    cases z with
    | true =>
      have hT := hT.yes
      have hnm := name_any HD2.out.look.start HD2.out.look.lt
      have HT := Lib.hid hT; have HNM := Lib.hid hnm
      clear hT hnm
      go_wp2_with fail
      refine HNM.out.mono ?_
      rintro e W3 (⟨n, L3, v, hn, rfl, ⟨rfl, hok⟩, hl3⟩ | ⟨k, L3, d3, hn, rfl, hl3, h1, h2⟩)
      · have hd3 := HD2.out.go hl3
        have ho3 := hd3.own
        have x2 := ho3.at_ 2 _ rfl
        have x3 := ho3.at_ 3 _ rfl
        have f2 := ho3.free 2
        have f3 := ho3.free 3
        have HD3 := Lib.hid hd3
        clear hd3
        clear hl3 ho3
        go_upto_region 4 with fail
        have hd4 : Duo b F W (W.heap.size + 1) #[.int .i64 0, .int .i64 0, .string ⟨#[]⟩, .string ⟨#[]⟩, .slice none 0 0] #[.int .i64 4, .int .i64 0, .string s, .string n, .slice none 0 0] ((W3.setCell ⟨W.heap.size + 1, 2, none⟩ (.string s)).setCell ⟨W.heap.size + 1, 3, none⟩ (.string n)) L3 d := by simpa using (HD3.out.setX 2 (.string s)).setX 3 (.string n)
        generalize (W3.setCell ⟨W.heap.size + 1, 2, none⟩ (.string s)).setCell ⟨W.heap.size + 1, 3, none⟩ (.string n) = W4 at hd4 ⊢
        have hms := must_any hd4.look.start sLp
        have HD4 := Lib.hid hd4; have HMS := Lib.hid hms
        clear hd4 hms
        clear x2 x3 f2 f3
        go_wp2_with fail
        refine HMS.out.mono ?_
        rintro e W5 ⟨L5, (⟨rfl, hm5, hl5⟩ | ⟨rfl, hm5, hl5⟩)⟩
        · have hx5 : R = prArgs (prExpr f) s n L5 := by
            rw [← HR.out]; show prIf _ _ _ _ = _
            rw [prIf_yes HT.out, prThen_ok hn, prThen_ok (prMust_yes hm5)]
          have hs3 := short_name _ _ _ hn
          have ht3 := take_len HT.out
          have ht5 := take_len hm5
          have hd5 := HD4.out.go hl5
          have HX5 := Lib.hid hx5; have HD5 := Lib.hid hd5
          clear hx5 hd5
          clear hl5 hm5
          go_wp2_with fail
          go_meet
          exact ⟨L5, s, n, by omega, HS.out, hok, aside HX5.out, aside HD5.out⟩
        · have hx5 : R = .error 4 := by
            rw [← HR.out]; show prIf _ _ _ _ = _
            rw [prIf_yes HT.out, prThen_ok hn, prThen_err (prMust_no hm5)]
          have hd5 := HD4.out.go hl5
          have HX5 := Lib.hid hx5; have HD5 := Lib.hid hd5
          clear hx5 hd5
          clear hl5 hm5
          go_wp2_with fail
          exact ⟨rfl, .inr ⟨4, L5, d, HX5.out, rfl, HD5.out.look, Int.le_refl _, by omega⟩⟩
      · have hx3 : R = .error k := by
          rw [← HR.out]; show prIf _ _ _ _ = _
          rw [prIf_yes HT.out, prThen_err hn]
        have hd3 := HD2.out.go hl3
        have HX3 := Lib.hid hx3; have HD3 := Lib.hid hd3
        clear hx3 hd3
        clear hl3 hn
        go_wp2_with fail
        exact ⟨rfl, .inr ⟨k, L3, d3, HX3.out, rfl, HD3.out.look, h1, h2⟩⟩
    | false =>
      obtain ⟨hT, rfl⟩ := hT.no
      have htk := take_any HD2.out.look.start sLp
      have hx2 : R = prIf sLp (prArgs (prExpr f) mt s) (prPure (.mk 3 0 mt s [])) L2 := by
        rw [← HR.out]; show prIf _ _ _ _ = _
        rw [prIf_no hT]
      have HTK2 := Lib.hid htk; have HX2 := Lib.hid hx2
      clear htk hx2
      clear hT
      go_wp2_with fail
      refine HTK2.out.mono ?_
      rintro e W3 ⟨z3, L3, rfl, hT3, hl3⟩
      have hd3 := HD2.out.go hl3
      cases z3 with
      | true =>
        have hT3 := hT3.yes
        have hx3 : R = prArgs (prExpr f) mt s L3 := HX2.out.trans (prIf_yes hT3)
        have ht3 := take_len hT3
        have HX3 := Lib.hid hx3; have HD3 := Lib.hid hd3
        clear hx3 hd3
        clear hl3 hT3
        go_wp2_with fail
        go_meet
        exact ⟨L3, mt, s, by omega, mt_ok, HS.out, aside HX3.out, aside HD3.out⟩
      | false =>
        obtain ⟨hT3, rfl⟩ := hT3.no
        have hx3 : R = .ok (.mk 3 0 mt s [], L3) := HX2.out.trans (prIf_no hT3)
        have hr3 := hd3.res
        have r0 := hr3.at_ 0 _ rfl
        have r1 := hr3.at_ 1 _ rfl
        have r2 := hr3.at_ 2 _ rfl
        have r3 := hr3.at_ 3 _ rfl
        have r4 := hr3.at_ 4 _ rfl
        have g0 := hr3.free 0
        have g1 := hr3.free 1
        have g2 := hr3.free 2
        have g3 := hr3.free 3
        have g4 := hr3.free 4
        have HX3 := Lib.hid hx3; have HD3 := Lib.hid hd3
        clear hx3 hd3
        clear hl3 hT3 hr3
        go_wp2_with fail
        refine bodyPost_ret (v := .agg #[.int .i64 3, .int .i64 0, .string ⟨#[]⟩, .string s, .slice none 0 0]) (by simp [results, Tryz.results282, go_sem, r0, r1, r2, r3, r4]) rfl ?_
        exact .inl ⟨_, L3, _, HX3.out, rfl, ⟨[.int .i64 3, .int .i64 0, .string mt, .string s, .slice none 0 0], rfl, rex_args rex_I64.2.2.2.1 rex_I64.1 mt_ok HS.out SliceOf.nil_⟩, (((((HD3.out.setR 0 _).setR 1 _).setR 2 _).setR 3 _).setR 4 _).look⟩
  case rest =>
    obtain ⟨L5, o, nm, hl5, ho, hnm, hx5, hd5⟩ := hcut
    obtain ⟨W5, rfl⟩ : ∃ W, W = wc := ⟨_, rfl⟩
    have htk := take_any hd5.out.look.start sRp
    have HTK5 := Lib.hid htk
    clear htk
    go_wp2_with fail
    refine HTK5.out.mono ?_
    rintro e W6 ⟨z6, L6, rfl, hT6, hl6⟩
    have hd6 := hd5.out.go hl6
    cases z6 with
    | true =>
      have hx6 : R = .ok (.mk 4 0 o nm [], L6) := hx5.out.trans (prIf_yes hT6.yes)
      have hr6 := hd6.res
      have ho6 := hd6.own
      have r0 := hr6.at_ 0 _ rfl
      have r1 := hr6.at_ 1 _ rfl
      have r2 := hr6.at_ 2 _ rfl
      have r3 := hr6.at_ 3 _ rfl
      have r4 := hr6.at_ 4 _ rfl
      have g0 := hr6.free 0
      have g1 := hr6.free 1
      have g2 := hr6.free 2
      have g3 := hr6.free 3
      have g4 := hr6.free 4
      have x0 := ho6.at_ 0 _ rfl
      have x1 := ho6.at_ 1 _ rfl
      have x2 := ho6.at_ 2 _ rfl
      have x3 := ho6.at_ 3 _ rfl
      have x4 := ho6.at_ 4 _ rfl
      have HX6 := Lib.hid hx6; have HD6 := Lib.hid hd6; have HO := Lib.hid ho; have HNM := Lib.hid hnm
      clear hx6 hd6 ho hnm
      clear hl6 hT6 hr6 ho6 hx5 hd5
      go_wp2_with fail
      refine bodyPost_ret (v := .agg #[.int .i64 4, .int .i64 0, .string o, .string nm, .slice none 0 0]) (by simp [results, Tryz.results282, go_sem, r0, r1, r2, r3, r4]) rfl ?_
      exact .inl ⟨_, L6, _, HX6.out, rfl, ⟨[.int .i64 4, .int .i64 0, .string o, .string nm, .slice none 0 0], rfl, rex_args rex_I64.2.2.2.2.1 rex_I64.1 HO.out HNM.out SliceOf.nil_⟩, (((((HD6.out.setR 0 _).setR 1 _).setR 2 _).setR 3 _).setR 4 _).look⟩
    | false =>
      obtain ⟨hT6, rfl⟩ := hT6.no
      have hx6 : R = prThen (prList (prExpr f) sRp) (fun xs => prPure (.mk 4 0 o nm xs)) L6 := hx5.out.trans (prIf_no hT6)
      have hls := rlist_any HX.out W6 L6 d sRp hd6.look.start hl5 hd h0
      have HX6 := Lib.hid hx6; have HD6 := Lib.hid hd6; have HO := Lib.hid ho; have HNM := Lib.hid hnm; have HLS := Lib.hid hls
      clear hx6 hd6 ho hnm hls
      clear hl6 hT6 hx5 hd5
      go_wp2_with fail
      refine HLS.out.mono ?_
      rintro e W7 (⟨xs, L7, v, hn, rfl, hv, hl7⟩ | ⟨k, L7, d7, hn, rfl, hl7, h1, h2⟩)
      · have hx7 : R = .ok (.mk 4 0 o nm xs, L7) := HX6.out.trans (prThen_ok hn)
        have hd7 := HD6.out.go hl7
        obtain ⟨A, c, rfl, _⟩ := SliceOf.form hv
        have hr7 := hd7.res
        have ho7 := hd7.own
        have hwq : ¬ (W6.heap.size ≤ W.heap.size + 1) := by have := HD6.out.own.lt; omega
        have hwr : ¬ (W6.heap.size ≤ W.heap.size) := by omega
        have hw6 := HD6.out.look.size
        have hw7 := hl7.size
        have r0 := hr7.at_ 0 _ rfl
        have r1 := hr7.at_ 1 _ rfl
        have r2 := hr7.at_ 2 _ rfl
        have r3 := hr7.at_ 3 _ rfl
        have r4 := hr7.at_ 4 _ rfl
        have g0 := hr7.free 0
        have g1 := hr7.free 1
        have g2 := hr7.free 2
        have g3 := hr7.free 3
        have g4 := hr7.free 4
        have x0 := ho7.at_ 0 _ rfl
        have x1 := ho7.at_ 1 _ rfl
        have x2 := ho7.at_ 2 _ rfl
        have x3 := ho7.at_ 3 _ rfl
        have x4 := ho7.at_ 4 _ rfl
        have q0 := ho7.free 0
        have q1 := ho7.free 1
        have q2 := ho7.free 2
        have q3 := ho7.free 3
        have q4 := ho7.free 4
        have HX7 := Lib.hid hx7; have HD7 := Lib.hid hd7; have HV := Lib.hid hv
        clear hx7 hd7 hv
        clear hl7 hn hr7 ho7
        go_wp2_with fail
        refine bodyPost_ret (v := .agg #[.int .i64 4, .int .i64 0, .string o, .string nm, .slice A xs.length c]) (by simp [results, Tryz.results282, go_sem, r0, r1, r2, r3, r4]) rfl ?_
        refine .inl ⟨_, L7, _, HX7.out, rfl, ⟨[.int .i64 4, .int .i64 0, .string o, .string nm, .slice A xs.length c], rfl, rex_args rex_I64.2.2.2.2.1 rex_I64.1 HO.out HNM.out (SliceOf.stays ExR.stays HV.out ?_ ?_)⟩, ((((((HD7.out.setX 4 _).setR 0 _).setR 1 _).setR 2 _).setR 3 _).setR 4 _).look⟩
        · simp only [size_set]; exact fresh_up (by omega) (Nat.le_refl _)
        · exact ((((((Keeps.refl _ _).setCell (fun h => hwq h.1) _).setCell (fun h => hwr h.1) _).setCell (fun h => hwr h.1) _).setCell (fun h => hwr h.1) _).setCell (fun h => hwr h.1) _).setCell (fun h => hwr h.1) _
      · have hx7 : R = .error k := HX6.out.trans (prThen_err hn)
        have hd7 := HD6.out.go hl7
        have HX7 := Lib.hid hx7; have HD7 := Lib.hid hd7
        clear hx7 hd7
        clear hl7 hn
        go_wp2_with fail
        exact ⟨rfl, .inr ⟨k, L7, d7, HX7.out, rfl, HD7.out.look, h1, h2⟩⟩

end Go.Proofs.YtjaladhdnbhliaaGreatDoor

/- An atom of an expression: (*tree.reader).atom. -/
namespace Go.Proofs.YtjaladhdnbhliaaGreatDoor
open Go.RowKit Go.Shelf

theorem num_atoi {s : ByteArray} (h : numOk s = true) : Lib.atoiAll s.data.toList = .ok (spell 0 s.data.toList : Int) ∧ spell 0 s.data.toList ≤ 999999 := by
  unfold numOk at h
  rw [Bool.and_eq_true, decide_eq_true_eq] at h
  have := num_read h.2 (by show s.data.toList.length ≤ 6; rw [Array.length_toList]; exact h.1)
  exact ⟨this.1, this.2.1⟩

set_option maxRecDepth 100000 in
set_option maxHeartbeats 4000000 in
theorem ratom_any {b : Nat} {F : Foot} {f : Nat} (hx : ExGives b F f) (W : World) (L : List Token) (d : Int) (h : Look b F W W L d) (hl : L.length ≤ 200) (hd : d + f = 40) (h0 : 0 ≤ d) :
    Calls Tryz.prog 268 #[.pointer (some ⟨b, 0, none⟩)] W (Gave (AggV ExR) b F W W d (prAtom (prExpr f) L)) := by
  obtain ⟨R, hR⟩ : ∃ R, prAtom (prExpr f) L = R := ⟨_, rfl⟩
  rw [hR]
  have hbl := h.lt
  have HX := Lib.hid hx; have HR := Lib.hid hR; have HH := Lib.hid h
  clear hx hR h
  go_enter Tryz.func268, Tryz.ntmps268
  go_upto_region 1 with fail
  have hBr := Box.made W 81 #[.int .i64 0, .int .i64 0, .string ⟨#[]⟩, .string ⟨#[]⟩, .slice none 0 0]
  have hbr : Below W.heap.size W (W.alloc (.cells #[.int .i64 0, .int .i64 0, .string ⟨#[]⟩, .string ⟨#[]⟩, .slice none 0 0] 81)) := by go_grown
  have hzr : (W.alloc (.cells #[.int .i64 0, .int .i64 0, .string ⟨#[]⟩, .string ⟨#[]⟩, .slice none 0 0] 81)).heap.size = W.heap.size + 1 := by simp
  generalize W.alloc (.cells #[.int .i64 0, .int .i64 0, .string ⟨#[]⟩, .string ⟨#[]⟩, .slice none 0 0] 81) = W1 at hBr hbr hzr ⊢
  have hl1 := HH.out.below hbr
  have htk := take_any hl1.start sLp
  have HL1 := Lib.hid hl1; have HTK := Lib.hid htk; have HB1 := Lib.hid hBr
  clear hl1 htk hBr
  clear hbr hzr
  go_wp2_with fail
  refine HTK.out.mono ?_
  rintro e W2 ⟨z, L2, rfl, hT, hl2⟩
  have hb2 := hl2.grew.box_ HB1.out (by omega)
  have hl2' := HL1.out.trans hl2
  have HL2 := Lib.hid hl2'; have HB2 := Lib.hid hb2
  clear hl2' hb2
  clear hl2 HB1 HL1
  cases z with
  | true =>
    have hT := hT.yes
    have ht2 := take_len hT
    have hcx := HX.out W2 L2 d HL2.out.start (by omega) hd h0
    have HT := Lib.hid hT; have HCX := Lib.hid hcx
    clear hT hcx
    go_wp2_with fail
    refine HCX.out.mono ?_
    rintro e W3 (⟨x, L3, v, hn, rfl, ⟨cs, rfl, hX⟩, hl3⟩ | ⟨k, L3, d3, hn, rfl, hl3, h1, h2⟩)
    · have hl3' := HL2.out.trans hl3
      have hb3 := hl3.grew.box_ HB2.out (by omega)
      have hw2 := HB2.out.lt
      have hw3 := hl3.size
      obtain ⟨A, c, rfl⟩ := ExR.form hX
      have HN := Lib.hid hn; have HXR := Lib.hid hX; have HL3 := Lib.hid hl3'; have HB3 := Lib.hid hb3
      clear hn hX hl3' hb3
      clear hl3 HL2 HB2
      go_upto_region 3 with fail
      have hBx := Box.made W3 81 #[.int .i64 x.kind, .int .i64 x.n, .string x.of_, .string x.s, .slice A x.args.length c]
      have hbx : Below W3.heap.size W3 (W3.alloc (.cells #[.int .i64 x.kind, .int .i64 x.n, .string x.of_, .string x.s, .slice A x.args.length c] 81)) := by go_grown
      have hzx : (W3.alloc (.cells #[.int .i64 x.kind, .int .i64 x.n, .string x.of_, .string x.s, .slice A x.args.length c] 81)).heap.size = W3.heap.size + 1 := by simp
      generalize W3.alloc (.cells #[.int .i64 x.kind, .int .i64 x.n, .string x.of_, .string x.s, .slice A x.args.length c] 81) = W4 at hBx hbx hzx ⊢
      have hl4 := HL3.out.below hbx
      have hb4 := HB3.out.later hbx HB3.out.lt
      have hX4 := ExR.stays.later HXR.out hbx fresh_lt
      have hms := must_any hl4.start sRp
      have hqr : W3.heap.size ≠ W.heap.size := by omega
      have hqb : W3.heap.size ≠ b := by omega
      have HL4 := Lib.hid hl4; have HB4 := Lib.hid hb4; have HX4 := Lib.hid hX4; have HMS := Lib.hid hms; have HO4 := Lib.hid hBx
      clear hl4 hb4 hX4 hms hBx
      clear hbx hzx HXR HB3 HL3
      go_wp2_with fail
      refine HMS.out.mono ?_
      rintro e W5 ⟨L5, (⟨rfl, hm5, hl5⟩ | ⟨rfl, hm5, hl5⟩)⟩
      · have hx5 : R = .ok (x, L5) := by
          rw [← HR.out]; show prIf _ _ _ _ = _
          rw [prIf_yes HT.out, prThen_ok HN.out, prThen_ok (prMust_yes hm5)]; rfl
        have hl5' := HL4.out.trans hl5
        have hr5 := hl5.grew.box_ HB4.out (by omega)
        have ho5 := hl5.grew.box_ HO4.out hqb
        have hX5 := ExR.stays _ _ _ _ _ _ HX4.out (fun _ h => h) (hl5.grew.keeps (n := W2.heap.size) (m := W3.heap.size) (by omega) (by have := HO4.out.lt; omega))
        have hw5 := hl5.size
        have hw4 := HO4.out.lt
        have hwr : ¬ (W2.heap.size ≤ W.heap.size) := by omega
        have r0 := hr5.at_ 0 _ rfl
        have r1 := hr5.at_ 1 _ rfl
        have r2 := hr5.at_ 2 _ rfl
        have r3 := hr5.at_ 3 _ rfl
        have r4 := hr5.at_ 4 _ rfl
        have g0 := hr5.free 0
        have g1 := hr5.free 1
        have g2 := hr5.free 2
        have g3 := hr5.free 3
        have g4 := hr5.free 4
        have x0 := ho5.at_ 0 _ rfl
        have x1 := ho5.at_ 1 _ rfl
        have x2 := ho5.at_ 2 _ rfl
        have x3 := ho5.at_ 3 _ rfl
        have x4 := ho5.at_ 4 _ rfl
        have HX5 := Lib.hid hx5; have HL5 := Lib.hid hl5'; have HXR := Lib.hid hX5; have HW4 := Lib.hid hw4
        clear hx5 hl5' hX5 hw4
        clear hl5 hm5 hr5 ho5
        go_wp2_with fail
        refine bodyPost_ret (v := .agg #[.int .i64 x.kind, .int .i64 x.n, .string x.of_, .string x.s, .slice A x.args.length c]) (by simp [results, Tryz.results268, go_sem, r0, r1, r2, r3, r4]) rfl ?_
        refine .inl ⟨x, L5, _, HX5.out, rfl, ⟨[.int .i64 x.kind, .int .i64 x.n, .string x.of_, .string x.s, .slice A x.args.length c], rfl, ExR.stays _ _ _ _ _ _ HXR.out ?_ ?_⟩, ((((HL5.out.set (Nat.le_refl _) hbl _).set (Nat.le_refl _) hbl _).set (Nat.le_refl _) hbl _).set (Nat.le_refl _) hbl _).set (Nat.le_refl _) hbl _⟩
        · simp only [size_set]; exact fresh_up (by omega) (by have := HW4.out; omega)
        · exact (((((Keeps.refl _ _).setCell (fun h => hwr h.1) _).setCell (fun h => hwr h.1) _).setCell (fun h => hwr h.1) _).setCell (fun h => hwr h.1) _).setCell (fun h => hwr h.1) _
      · have hx5 : R = .error 4 := by
          rw [← HR.out]; show prIf _ _ _ _ = _
          rw [prIf_yes HT.out, prThen_ok HN.out, prThen_err (prMust_no hm5)]
        have hl5' := HL4.out.trans hl5
        have HX5 := Lib.hid hx5; have HL5 := Lib.hid hl5'
        clear hx5 hl5'
        clear hl5 hm5
        go_wp2_with fail
        exact ⟨rfl, .inr ⟨4, L5, d, HX5.out, rfl, HL5.out, Int.le_refl _, by omega⟩⟩
    · have hx3 : R = .error k := by
        rw [← HR.out]; show prIf _ _ _ _ = _
        rw [prIf_yes HT.out, prThen_err hn]
      have hl3' := HL2.out.trans hl3
      have HX3 := Lib.hid hx3; have HL3 := Lib.hid hl3'
      clear hx3 hl3'
      clear hl3 hn
      go_wp2_with fail
      exact ⟨rfl, .inr ⟨k, L3, d3, HX3.out, rfl, HL3.out, h1, h2⟩⟩
  | false =>
    obtain ⟨hT, rfl⟩ := hT.no
    have hx2 : R = prIf sLb (prThen (prList (prExpr f) sRb) fun xs => prPure (.mk 6 0 mt mt xs)) (prLeaf (prExpr f)) L2 := by
      rw [← HR.out]; show prIf _ _ _ _ = _
      rw [prIf_no hT]
    have htk := take_any HL2.out.start sLb
    have HTK2 := Lib.hid htk; have HX2 := Lib.hid hx2
    clear htk hx2
    clear hT
    go_wp2_with fail
    refine HTK2.out.mono ?_
    rintro e W3 ⟨z3, L3, rfl, hT3, hl3⟩
    have hb3 := hl3.grew.box_ HB2.out (by omega)
    have hl3' := HL2.out.trans hl3
    have hw3 := hb3.lt
    have HL3 := Lib.hid hl3'; have HB3 := Lib.hid hb3
    clear hl3' hb3
    clear hl3 HL2 HB2
    cases z3 with
    | true =>
      have hT3 := hT3.yes
      have ht3 := take_len hT3
      have hls := rlist_any HX.out W3 L3 d sRb HL3.out.start (by omega) hd h0
      have hx3 := HX2.out.trans (prIf_yes hT3)
      have HX3 := Lib.hid hx3; have HLS := Lib.hid hls
      clear hx3 hls
      clear hT3
      go_wp2_with fail
      refine HLS.out.mono ?_
      rintro e W4 (⟨xs, L4, v, hn, rfl, hv, hl4⟩ | ⟨k, L4, d4, hn, rfl, hl4, h1, h2⟩)
      · have hx4 : R = .ok (.mk 6 0 mt mt xs, L4) := HX3.out.trans (prThen_ok hn)
        have hl4' := HL3.out.trans hl4
        have hr4 := hl4.grew.box_ HB3.out (by omega)
        obtain ⟨A, c, rfl, _⟩ := SliceOf.form hv
        have hw4 := hl4.size
        have hwr : ¬ (W3.heap.size ≤ W.heap.size) := by omega
        have r0 := hr4.at_ 0 _ rfl
        have r1 := hr4.at_ 1 _ rfl
        have r2 := hr4.at_ 2 _ rfl
        have r3 := hr4.at_ 3 _ rfl
        have r4 := hr4.at_ 4 _ rfl
        have g0 := hr4.free 0
        have g1 := hr4.free 1
        have g2 := hr4.free 2
        have g3 := hr4.free 3
        have g4 := hr4.free 4
        have HX4 := Lib.hid hx4; have HL4 := Lib.hid hl4'; have HV := Lib.hid hv
        clear hx4 hl4' hv
        clear hl4 hn hr4
        go_wp2_with fail
        refine bodyPost_ret (v := .agg #[.int .i64 6, .int .i64 0, .string ⟨#[]⟩, .string ⟨#[]⟩, .slice A xs.length c]) (by simp [results, Tryz.results268, go_sem, r0, r1, r2, r3, r4]) rfl ?_
        refine .inl ⟨_, L4, _, HX4.out, rfl, ⟨[.int .i64 6, .int .i64 0, .string mt, .string mt, .slice A xs.length c], rfl, rex_args rex_I64.2.2.2.2.2.2.1 rex_I64.1 mt_ok mt_ok (SliceOf.stays ExR.stays HV.out ?_ ?_)⟩, ((((HL4.out.set (Nat.le_refl _) hbl _).set (Nat.le_refl _) hbl _).set (Nat.le_refl _) hbl _).set (Nat.le_refl _) hbl _).set (Nat.le_refl _) hbl _⟩
        · simp only [size_set]; exact fresh_up (by omega) (Nat.le_refl _)
        · exact (((((Keeps.refl _ _).setCell (fun h => hwr h.1) _).setCell (fun h => hwr h.1) _).setCell (fun h => hwr h.1) _).setCell (fun h => hwr h.1) _).setCell (fun h => hwr h.1) _
      · have hx4 : R = .error k := HX3.out.trans (prThen_err hn)
        have hl4' := HL3.out.trans hl4
        have HX4 := Lib.hid hx4; have HL4 := Lib.hid hl4'
        clear hx4 hl4'
        clear hl4 hn
        go_wp2_with fail
        exact ⟨rfl, .inr ⟨k, L4, d4, HX4.out, rfl, HL4.out, h1, h2⟩⟩
    | false =>
      obtain ⟨hT3, rfl⟩ := hT3.no
      have hx3 : R = prLeaf (prExpr f) L3 := HX2.out.trans (prIf_no hT3)
      have hnx := next_any HL3.out.start HL3.out.lt
      have HX3 := Lib.hid hx3; have HNX := Lib.hid hnx
      clear hx3 hnx
      clear hT3
      go_wp2_with fail
      refine HNX.out.mono ?_
      rintro e W4 ⟨t, L4, rfl, hN, hk, htx, hl4⟩
      obtain ⟨kd, tx⟩ := t
      dsimp only at *
      have hl4' := HL3.out.trans hl4
      have hb4 := hl4.grew.box_ HB3.out (by omega)
      have hne0 : kd ≠ 0 → L3 = ⟨kd, tx⟩ :: L4 := fun hk0 => by
        rcases hN with ⟨_, h, _⟩ | h
        · injection h with h1 h2; exact absurd h1 hk0
        · exact h
      have hl43 : L4.length ≤ L3.length := by
        rcases hN with ⟨_, _, h⟩ | h <;> (rw [h]; simp)
      have hfine : kd = 2 → numOk tx = true := fun h2 => HL3.out.fine ⟨kd, tx⟩ (by rw [hne0 (by omega)]; exact List.mem_cons_self) h2
      have hbad : ¬ (kd = 3 ∨ kd = 2 ∨ (kd = 1 ∧ nameOk tx = true)) → R = .error 4 := fun hn => by
        rw [HX3.out]
        rcases hN with ⟨h, _, _⟩ | h
        · rw [h]; rfl
        · rw [h, prLeaf_cons, if_neg (fun h => hn (.inl h)), if_neg (fun h => hn (.inr (.inl h))), if_neg (fun h => hn (.inr (.inr h)))]
      have HL4 := Lib.hid hl4'; have HB4 := Lib.hid hb4; have HNE := Lib.hid hne0; have HFINE := Lib.hid hfine; have HBAD := Lib.hid hbad; have HTX := Lib.hid htx; have HLN := Lib.hid hl43
      clear hl4' hb4 hne0 hfine hbad htx hl43
      clear hl4 hN hk HNX
      go_upto_region 8 with fail
      have hBt := Box.made W4 182 #[.int .i64 kd, .string tx]
      have hbt : Below W4.heap.size W4 (W4.alloc (.cells #[.int .i64 kd, .string tx] 182)) := by go_grown
      have hzt : (W4.alloc (.cells #[.int .i64 kd, .string tx] 182)).heap.size = W4.heap.size + 1 := by simp
      generalize W4.alloc (.cells #[.int .i64 kd, .string tx] 182) = W5 at hBt hbt hzt ⊢
      have hl5 := HL4.out.below hbt
      have hr5 := HB4.out.later hbt HB4.out.lt
      have hw4 := HB4.out.lt
      have hnr : W4.heap.size ≠ W.heap.size := by omega
      have hnr2 : W.heap.size ≠ W4.heap.size := by omega
      have hnb : W4.heap.size ≠ b := by have := HL4.out.lt; omega
      have hid := fun U => ident_any tx U HTX.out
      obtain ⟨z1, hz1⟩ : ∃ z, (nameOk tx) = z := ⟨_, rfl⟩
      rw [hz1] at hid
      have Z1 := Lib.hid hz1; clear hz1
      have x0 := hBt.at_ 0 _ rfl
      have x1 := hBt.at_ 1 _ rfl
      have r0 := hr5.at_ 0 _ rfl
      have r1 := hr5.at_ 1 _ rfl
      have r2 := hr5.at_ 2 _ rfl
      have r3 := hr5.at_ 3 _ rfl
      have r4 := hr5.at_ 4 _ rfl
      have g0 := hr5.free 0
      have g1 := hr5.free 1
      have g2 := hr5.free 2
      have g3 := hr5.free 3
      have g4 := hr5.free 4
      have HL5 := Lib.hid hl5; have HR5 := Lib.hid hr5; have HO5 := Lib.hid hBt; have HID := Lib.hid hid
      clear hl5 hr5 hBt hid
      clear hbt hzt
      cases hq3 : (kd == 3) with
      | true =>
        have hk3 : kd = 3 := by simpa using hq3
        have hx5 : R = .ok (.mk 2 0 mt tx [], L4) := by rw [HX3.out, HNE.out (by omega), prLeaf_cons, if_pos hk3]
        have HX5 := Lib.hid hx5
        clear hx5
        clear hk3
        go_wp2_with fail
        refine bodyPost_ret (v := .agg #[.int .i64 2, .int .i64 0, .string ⟨#[]⟩, .string tx, .slice none 0 0]) (by simp [results, Tryz.results268, go_sem, r0, r1, r2, r3, r4]) rfl ?_
        exact .inl ⟨_, L4, _, HX5.out, rfl, ⟨[.int .i64 2, .int .i64 0, .string mt, .string tx, .slice none 0 0], rfl, rex_args rex_I64.2.2.1 rex_I64.1 mt_ok HTX.out SliceOf.nil_⟩, ((((HL5.out.set (Nat.le_refl _) hbl _).set (Nat.le_refl _) hbl _).set (Nat.le_refl _) hbl _).set (Nat.le_refl _) hbl _).set (Nat.le_refl _) hbl _⟩
      | false =>
        have hk3 : ¬ kd = 3 := by simpa using hq3
        cases hq2 : (kd == 2) with
        | true =>
          have hk2 : kd = 2 := by simpa using hq2
          have hx5 : R = .ok (.mk 1 (spell 0 tx.data.toList : Nat) mt mt [], L4) := by rw [HX3.out, HNE.out (by omega), prLeaf_cons, if_neg hk3, if_pos hk2]
          have hna := num_atoi (HFINE.out hk2)
          have hat := fun U => atoi_ok tx U _ HTX.out hna.1
          generalize spell 0 tx.data.toList = n at hx5 hna hat
          have hni : I64 (n : Int) := ⟨by omega, by have := hna.2; omega⟩
          have HX5 := Lib.hid hx5; have HAT := Lib.hid hat; have HNI := Lib.hid hni
          clear hx5 hat hni
          clear hk2 hk3 hna
          go_wp2_with fail
          refine (HAT.out _).mono ?_
          rintro e W6 ⟨rfl, hb6⟩
          have hl6 := HL5.out.below hb6
          have hr6 := HR5.out.later hb6 HR5.out.lt
          clear r0 r1 r2 r3 r4 g0 g1 g2 g3 g4
          have r0 := hr6.at_ 0 _ rfl
          have r1 := hr6.at_ 1 _ rfl
          have r2 := hr6.at_ 2 _ rfl
          have r3 := hr6.at_ 3 _ rfl
          have r4 := hr6.at_ 4 _ rfl
          have g0 := hr6.free 0
          have g1 := hr6.free 1
          have g2 := hr6.free 2
          have g3 := hr6.free 3
          have g4 := hr6.free 4
          have HL6 := Lib.hid hl6
          clear hl6
          clear hr6 hb6
          go_wp2_with fail
          refine bodyPost_ret (v := .agg #[.int .i64 1, .int .i64 n, .string ⟨#[]⟩, .string ⟨#[]⟩, .slice none 0 0]) (by simp [results, Tryz.results268, go_sem, r0, r1, r2, r3, r4]) rfl ?_
          exact .inl ⟨_, L4, _, HX5.out, rfl, ⟨[.int .i64 1, .int .i64 n, .string mt, .string mt, .slice none 0 0], rfl, rex_args rex_I64.2.1 HNI.out mt_ok mt_ok SliceOf.nil_⟩, ((((HL6.out.set (Nat.le_refl _) hbl _).set (Nat.le_refl _) hbl _).set (Nat.le_refl _) hbl _).set (Nat.le_refl _) hbl _).set (Nat.le_refl _) hbl _⟩
        | false =>
          have hk2 : ¬ kd = 2 := by simpa using hq2
          cases hq1 : (kd == 1) with
          | false =>
            have hk1 : ¬ kd = 1 := by simpa using hq1
            have hx5 := HBAD.out (fun h => by rcases h with h | h | h; exact hk3 h; exact hk2 h; exact hk1 h.1)
            have HX5 := Lib.hid hx5
            clear hx5
            clear hk1 hk2 hk3
            go_wp2_with (first | (go_at_call 71; (with_reducible refine (need_yes _ _).mono ?_); rintro e w' ⟨rfl, rfl⟩) | (go_at_call 71; (with_reducible refine (need_no _ _).mono ?_); rintro e w' ⟨rfl, rfl⟩))
            exact ⟨rfl, .inr ⟨4, L4, d, HX5.out, rfl, HL5.out, Int.le_refl _, by omega⟩⟩
          | true =>
            have hk1 : kd = 1 := by simpa using hq1
            cases z1 with
            | false =>
              have hx5 := HBAD.out (fun h => by rcases h with h | h | h; exact hk3 h; exact hk2 h; rw [Z1.out] at h; cases h.2)
              have HX5 := Lib.hid hx5
              clear hx5
              clear hk1 hk2 hk3
              go_wp2_with (first | (go_at_call 61; (with_reducible refine (HID.out _).mono ?_); rintro e W6 ⟨rfl, hb6⟩; have HL6 := Lib.hid (HL5.out.below hb6); clear hb6) | (go_at_call 71; (with_reducible refine (need_no _ _).mono ?_); rintro e w' ⟨rfl, rfl⟩))
              exact ⟨rfl, .inr ⟨4, L4, d, HX5.out, rfl, HL6.out, Int.le_refl _, by omega⟩⟩
            | true =>
              have hx5 : R = prNamed (prExpr f) tx L4 := by rw [HX3.out, HNE.out (by omega), prLeaf_cons, if_neg hk3, if_neg hk2, if_pos ⟨hk1, Z1.out⟩]
              have hnm := fun U (hU : Below W5.heap.size W5 U) => rnamed_any HX.out U L4 d tx HTX.out (HL5.out.below hU).start (by have := HLN.out; omega) hd h0
              rw [← hx5] at hnm
              have HNM := Lib.hid hnm
              clear hnm
              clear hk1 hk2 hk3 hx5
              go_wp2_with (first | (go_at_call 61; (with_reducible refine (HID.out _).mono ?_); rintro e W6 ⟨rfl, hb6⟩; have HU6 := Lib.hid hb6; have y1 := (HO5.out.later hb6 HO5.out.lt).at_ 1 _ rfl; clear hb6) | (go_at_call 71; (with_reducible refine (need_yes _ _).mono ?_); rintro e w' ⟨rfl, rfl⟩))
              refine (HNM.out _ HU6.out).mono ?_
              have hl6 := HL5.out.below HU6.out
              have hr6 := HR5.out.later HU6.out HR5.out.lt
              rintro e W7 (⟨x, L7, v, hn, rfl, ⟨cs, rfl, hX⟩, hl7⟩ | ⟨k, L7, d7, hn, rfl, hl7, h1, h2⟩)
              · have hl7' := hl6.trans hl7
                have hr7 := hl7.grew.box_ hr6 (by omega)
                have hw6 := hr6.lt
                have hw7 := hl7.size
                have hwr : ¬ (W6.heap.size ≤ W.heap.size) := by omega
                obtain ⟨A, c, rfl⟩ := ExR.form hX
                clear r0 r1 r2 r3 r4 g0 g1 g2 g3 g4
                have r0 := hr7.at_ 0 _ rfl
                have r1 := hr7.at_ 1 _ rfl
                have r2 := hr7.at_ 2 _ rfl
                have r3 := hr7.at_ 3 _ rfl
                have r4 := hr7.at_ 4 _ rfl
                have g0 := hr7.free 0
                have g1 := hr7.free 1
                have g2 := hr7.free 2
                have g3 := hr7.free 3
                have g4 := hr7.free 4
                have HX7 := Lib.hid hn; have HL7 := Lib.hid hl7'; have HXR := Lib.hid hX
                clear hn hl7' hX
                clear hl7 hr7 hr6 hl6
                go_wp2_with fail
                refine bodyPost_ret (v := .agg #[.int .i64 x.kind, .int .i64 x.n, .string x.of_, .string x.s, .slice A x.args.length c]) (by simp [results, Tryz.results268, go_sem, r0, r1, r2, r3, r4]) rfl ?_
                refine .inl ⟨x, L7, _, HX7.out, rfl, ⟨[.int .i64 x.kind, .int .i64 x.n, .string x.of_, .string x.s, .slice A x.args.length c], rfl, ExR.stays _ _ _ _ _ _ HXR.out ?_ ?_⟩, ((((HL7.out.set (Nat.le_refl _) hbl _).set (Nat.le_refl _) hbl _).set (Nat.le_refl _) hbl _).set (Nat.le_refl _) hbl _).set (Nat.le_refl _) hbl _⟩
                · simp only [size_set]; exact fresh_up (by omega) (Nat.le_refl _)
                · exact (((((Keeps.refl _ _).setCell (fun h => hwr h.1) _).setCell (fun h => hwr h.1) _).setCell (fun h => hwr h.1) _).setCell (fun h => hwr h.1) _).setCell (fun h => hwr h.1) _
              · have hl7' := hl6.trans hl7
                have HX7 := Lib.hid hn; have HL7 := Lib.hid hl7'
                clear hn hl7'
                clear hl7 hl6 hr6
                go_wp2_with fail
                exact ⟨rfl, .inr ⟨k, L7, d7, HX7.out, rfl, HL7.out, h1, h2⟩⟩

end Go.Proofs.YtjaladhdnbhliaaGreatDoor

/- A region that draws its order and holds a call that panics, in a function that may defer. No program is named here. -/
namespace Go.Proofs.YtjaladhdnbhliaaGreatDoor

/-- Q, but for a panic: the deferred calls, and what is said of it and of the world. -/
def PanicsSo (D : List Deferred) (K : List PanicEntry → World → Prop) (Q : Exit → Act → World → Prop) : Exit → Act → World → Prop
  | .panic c, a, w => a.defers = D ∧ K c w
  | e, a, w => Q e a w
theorem wp_region_panics {P : Program} {id : Nat} {ops : Array Oper} {b : Bool} {Q : Exit → Act → World → Prop} {a : Act} {w : World} (D : List Deferred) (K : List PanicEntry → World → Prop)
    (hK : ∀ c a w, a.defers = D → K c w → Q (.panic c) a w) (h : (Code.region id ops b).wp P (PanicsSo D K Q) a w) : (Code.region id ops b).wp P Q a w :=
  Code.wp_mono (fun e a w h => by
    cases e
    case panic c => exact hK _ _ _ h.1 h.2
    all_goals exact h) h

end Go.Proofs.YtjaladhdnbhliaaGreatDoor

/- Something, and places in it: (*tree.reader).post. -/
namespace Go.Proofs.YtjaladhdnbhliaaGreatDoor
open Go.RowKit Go.Shelf

/-- A slice of two. -/
theorem rslice_two {α : Type} {R : CR α} {sz by_ : Nat} {F : Foot} {w : World} {n : Nat} {t : TypeId} {cs ds : List Value} {x y : α} (hB : Box w n t (cs ++ ds).toArray) (hR : R w F cs x) (hS : R w F ds y) (hc : cs.length = sz) (hd : ds.length = sz) (hF : F n) (hb : by_ ≤ 1000000) : SliceOf R sz by_ w F (.slice (some ⟨n, 0, none⟩) 2 2) [x, y] := by
  refine ⟨_, 2, rfl, Nat.le_refl _, by unfold maxLen; decide, by show 2 * by_ ≤ _; omega, by simp, fun _ => ⟨n, 0, rfl, hF, fun i z hi => ?_⟩⟩
  match i, hi with
  | 0, hi =>
    simp only [List.getElem?_cons_zero, Option.some.injEq] at hi
    subst hi
    refine ⟨cs, hc, hR, fun j u hj => ?_⟩
    rw [Nat.zero_mul, Nat.add_zero, Nat.zero_add]
    refine hB.at_ j u ?_
    have hlt : j < cs.length := (List.getElem?_eq_some_iff.1 hj).1
    rw [List.getElem?_toArray, List.getElem?_append_left hlt]; exact hj
  | 1, hi =>
    simp only [List.getElem?_cons_succ, List.getElem?_cons_zero, Option.some.injEq] at hi
    subst hi
    refine ⟨ds, hd, hS, fun j u hj => ?_⟩
    rw [Nat.one_mul, Nat.zero_add]
    refine hB.at_ _ u ?_
    rw [List.getElem?_toArray, List.getElem?_append_right (by omega), hc, Nat.add_sub_cancel_left]; exact hj

/-- What an expression leads to: new blocks, but for the variable's. -/
def Fit (W : World) (q : Nat) (w : World) (G : Foot) : Prop := ∀ k, G k → W.heap.size < k ∧ k ≠ q ∧ k < w.heap.size

/-- Where two expressions lead to. -/
def two_ (G : Foot) (n m : Nat) : Foot := fun k => G k ∨ fresh n m k ∨ k = m
theorem Fit.two {W : World} {q : Nat} {w w' : World} {G : Foot} (h : Fit W q w G) (hs : w.heap.size ≤ w'.heap.size) (hq : q < w.heap.size) (hW : W.heap.size < q) (o : Obj) : Fit W q (w'.alloc o) (two_ G w.heap.size w'.heap.size) := fun k hk => by
  have e : (w'.alloc o).heap.size = w'.heap.size + 1 := by simp
  rw [e]
  rcases hk with hk | hk | rfl
  · have := h k hk; exact ⟨this.1, this.2.1, by omega⟩
  · have h1 := hk.1; have h2 := hk.2; exact ⟨by omega, by omega, by omega⟩
  · exact ⟨by omega, by omega, by omega⟩
theorem rex_two {W w w' : World} {b q : Nat} {G : Foot} {cs ds : List Value} {x y : Ex} (t : TypeId) (hX : ExR w G cs x) (hF : Fit W q w G) (hg : Grew b w w' (some b)) (hb : b < W.heap.size) (hY : ExR w' (fresh w.heap.size w'.heap.size) ds y) {k : Int} (hk : I64 k) :
    ExR (w'.alloc (.cells (cs ++ ds).toArray t)) (two_ G w.heap.size w'.heap.size) [.int .i64 k, .int .i64 0, .string mt, .string mt, .slice (some ⟨w'.heap.size, 0, none⟩) 2 2] (.mk k 0 mt mt [x, y]) := by
  have hk' : ∀ k, G k ∨ fresh w.heap.size w'.heap.size k → k < w'.heap.size := fun k hk => by
    rcases hk with hk | hk
    · have := (hF k hk).2.2; have := hg.size; omega
    · exact hk.2
  have hX2 : ExR (w'.alloc (.cells (cs ++ ds).toArray t)) (two_ G w.heap.size w'.heap.size) cs x := ExR.stays _ _ _ _ _ _ hX (fun _ h => .inl h) (keeps_of_heap fun k hk => (Below.heap_alloc _ _ _ (hk' k (.inl hk))).trans (hg.block k (hF k hk).2.2 (fun e => by injection e with e; have := (hF k hk).1; omega)))
  have hY2 : ExR (w'.alloc (.cells (cs ++ ds).toArray t)) (two_ G w.heap.size w'.heap.size) ds y := ExR.stays _ _ _ _ _ _ hY (fun _ h => .inr (.inl h)) (keeps_of_heap fun k hk => Below.heap_alloc _ _ _ (hk' k (.inr hk)))
  exact rex_args hk rex_I64.1 mt_ok mt_ok (rslice_two (Box.made _ _ _) hX2 hY2 (rex_len hX) (rex_len hY) (.inr (.inr rfl)) (by decide))
theorem Duo.alloc {b : Nat} {F : Foot} {W : World} {q : Nat} {rc xc : Array Value} {W' : World} {L : List Token} {d : Int} (h : Duo b F W q rc xc W' L d) (o : Obj) : Duo b F W q rc xc (W'.alloc o) L d := h.below ((Below.refl _ _).alloc (Nat.le_refl _) o)

set_option maxRecDepth 100000 in
set_option maxHeartbeats 4000000 in
theorem rpost_any {b : Nat} {F : Foot} {f : Nat} (hx : ExGives b F f) (W : World) (L : List Token) (d : Int) (h : Look b F W W L d) (hl : L.length ≤ 200) (hd : d + f = 40) (h0 : 0 ≤ d) :
    Calls Tryz.prog 248 #[.pointer (some ⟨b, 0, none⟩)] W (Gave (AggV ExR) b F W W d (prPost (prExpr f) L)) := by
  obtain ⟨R, hR⟩ : ∃ R, prPost (prExpr f) L = R := ⟨_, rfl⟩
  rw [hR]
  have hbl := h.lt
  have hat := fun U (hU : Below W.heap.size W U) => ratom_any hx U L d (h.below hU).start hl hd h0
  have HX := Lib.hid hx; have HR := Lib.hid hR; have HH := Lib.hid h; have HAT := Lib.hid hat
  clear hx hR h hat
  go_enter Tryz.func248, Tryz.ntmps248
  go_upto_region 1 with fail
  have hBr := Box.made W 81 #[.int .i64 0, .int .i64 0, .string ⟨#[]⟩, .string ⟨#[]⟩, .slice none 0 0]
  have hbr : Below W.heap.size W (W.alloc (.cells #[.int .i64 0, .int .i64 0, .string ⟨#[]⟩, .string ⟨#[]⟩, .slice none 0 0] 81)) := by go_grown
  have hzr : (W.alloc (.cells #[.int .i64 0, .int .i64 0, .string ⟨#[]⟩, .string ⟨#[]⟩, .slice none 0 0] 81)).heap.size = W.heap.size + 1 := by simp
  generalize W.alloc (.cells #[.int .i64 0, .int .i64 0, .string ⟨#[]⟩, .string ⟨#[]⟩, .slice none 0 0] 81) = W1 at hBr hbr hzr ⊢
  have hl1 := HH.out.below hbr
  have hrl := hBr.lt
  have HL1 := Lib.hid hl1; have HB1 := Lib.hid hBr; have Hbr := Lib.hid hbr
  clear hl1 hBr hbr
  clear hzr
  go_wp2_with fail
  refine (HAT.out _ Hbr.out).mono ?_
  rintro e W2 (⟨x, L2, v, hn, rfl, ⟨cs, rfl, hX⟩, hl2⟩ | ⟨k, L2, d2, hn, rfl, hl2, h1, h2⟩)
  rotate_left
  · have hx2 : R = .error k := by rw [← HR.out]; exact prThen_err hn
    have hl2' := HL1.out.trans hl2
    have HX2 := Lib.hid hx2; have HL2 := Lib.hid hl2'
    clear hx2 hl2'
    clear hl2 hn
    go_wp2_with fail
    exact ⟨rfl, .inr ⟨k, L2, d2, HX2.out, rfl, HL2.out, h1, h2⟩⟩
  have hx2 : R = prAts (prExpr f) L2.length x L2 := by rw [← HR.out]; exact prThen_ok hn
  have hs2 := short_atom (short_expr f) _ _ _ hn
  have hl2' := HL1.out.trans hl2
  have hb2 := hl2.grew.box_ HB1.out (by omega)
  have hw2 := hl2.size
  obtain ⟨A, c, rfl⟩ := ExR.form hX
  have HX2 := Lib.hid hx2; have HL2 := Lib.hid hl2'; have HB2 := Lib.hid hb2; have HXR := Lib.hid hX
  clear hx2 hl2' hb2 hX
  clear hl2 hn HB1 HL1 HAT
  go_wp2_with fail
  have hBx := Box.made W2 81 #[.int .i64 x.kind, .int .i64 x.n, .string x.of_, .string x.s, .slice A x.args.length c]
  have hbx : Below W2.heap.size W2 (W2.alloc (.cells #[.int .i64 x.kind, .int .i64 x.n, .string x.of_, .string x.s, .slice A x.args.length c] 81)) := by go_grown
  have hzx : (W2.alloc (.cells #[.int .i64 x.kind, .int .i64 x.n, .string x.of_, .string x.s, .slice A x.args.length c] 81)).heap.size = W2.heap.size + 1 := by simp
  generalize W2.alloc (.cells #[.int .i64 x.kind, .int .i64 x.n, .string x.of_, .string x.s, .slice A x.args.length c] 81) = W3 at hBx hbx hzx ⊢
  have hq : W.heap.size < W2.heap.size := by omega
  have hd3 : Duo b F W W2.heap.size _ _ W3 L2 d := ⟨HL2.out.below hbx, HB2.out.later hbx HB2.out.lt, hBx, hq, hbl⟩
  have hX3 := ExR.stays.later HXR.out hbx fresh_lt
  have hw3 := hbx.size
  obtain ⟨q, hqe⟩ : ∃ q, W2.heap.size = q := ⟨_, rfl⟩
  have hfit : Fit W q W3 (fresh W1.heap.size W2.heap.size) := fun k hk => ⟨by have := hk.1; omega, by have := hk.2; omega, by have := hk.2; omega⟩
  rw [hqe] at hd3 hq ⊢
  have HD3 := Lib.hid hd3; have HX3 := Lib.hid hX3; have HFIT := Lib.hid hfit
  clear hd3 hX3 hfit
  clear hbx hzx hBx HB2 HL2 HXR hqe
  go_loopg [] L2.length (fun gg wr => ∃ (m c : Nat) (A : Option Addr) (x : Ex) (L4 : List Token) (G : Foot), L4.length ≤ gg ∧ L4.length ≤ m ∧ L4.length ≤ 200 ∧ Aside (R = prAts (prExpr f) m x L4) ∧
    Aside (Duo b F W q #[.int .i64 0, .int .i64 0, .string ⟨#[]⟩, .string ⟨#[]⟩, .slice none 0 0] #[.int .i64 x.kind, .int .i64 x.n, .string x.of_, .string x.s, .slice A x.args.length c] wr L4 d) ∧
    Aside (ExR wr G [.int .i64 x.kind, .int .i64 x.n, .string x.of_, .string x.s, .slice A x.args.length c] x) ∧ Aside (Fit W q wr G))
  case atStart => exact ⟨L2.length, c, A, x, L2, _, Nat.le_refl _, Nat.le_refl _, by omega, aside HX2.out, aside HD3.out, aside HX3.out, aside HFIT.out⟩
  case round =>
    clear HD3 HX3 HFIT HX2
    obtain ⟨m, c, A, x, L4, G, hg, hm, h200, hR4, hd4, hX4, hF4⟩ := hrel
    obtain ⟨W4, rfl⟩ : ∃ W, W = wr := ⟨_, rfl⟩
    have htk := take_any hd4.out.look.start sLb
    have HTK := Lib.hid htk
    clear htk
    go_wp2_with fail
    refine HTK.out.mono ?_
    rintro e W5 ⟨z, L5, rfl, hT, hl5⟩
    have hd5 := hd4.out.go hl5
    have hw5 := hl5.size
    have hX5 : ExR W5 G _ x := ExR.stays _ _ _ _ _ _ hX4.out (fun _ h => h) (keeps_of_heap fun k hk => hl5.grew.block k (hF4.out k hk).2.2 (fun e => by injection e with e; have := (hF4.out k hk).1; omega))
    have hF5 : Fit W q W5 G := fun k hk => ⟨(hF4.out k hk).1, (hF4.out k hk).2.1, by have := (hF4.out k hk).2.2; omega⟩
    cases z with
    | false =>
      obtain ⟨hT, rfl⟩ := hT.no
      have hx5 : R = .ok (x, L5) := hR4.out.trans (ats_stop hT)
      have hr5 := hd5.res
      have ho5 := hd5.own
      have r0 := hr5.at_ 0 _ rfl
      have r1 := hr5.at_ 1 _ rfl
      have r2 := hr5.at_ 2 _ rfl
      have r3 := hr5.at_ 3 _ rfl
      have r4 := hr5.at_ 4 _ rfl
      have g0 := hr5.free 0
      have g1 := hr5.free 1
      have g2 := hr5.free 2
      have g3 := hr5.free 3
      have g4 := hr5.free 4
      have x0 := ho5.at_ 0 _ rfl
      have x1 := ho5.at_ 1 _ rfl
      have x2 := ho5.at_ 2 _ rfl
      have x3 := ho5.at_ 3 _ rfl
      have x4 := ho5.at_ 4 _ rfl
      have HX5 := Lib.hid hx5; have HD5 := Lib.hid hd5; have HXR := Lib.hid hX5; have HF5 := Lib.hid hF5
      clear hx5 hd5 hX5 hF5
      clear hl5 hr5 ho5 hT HTK hX4 hd4 hF4 hR4
      go_wp2_with fail
      refine bodyPost_ret (v := .agg #[.int .i64 x.kind, .int .i64 x.n, .string x.of_, .string x.s, .slice A x.args.length c]) (by simp [results, Tryz.results248, go_sem, r0, r1, r2, r3, r4]) rfl ?_
      have hnr : ¬ G W.heap.size := fun h => Nat.lt_irrefl _ (HF5.out _ h).1
      refine .inl ⟨x, L5, _, HX5.out, rfl, ⟨[.int .i64 x.kind, .int .i64 x.n, .string x.of_, .string x.s, .slice A x.args.length c], rfl, ExR.stays _ _ _ _ _ _ HXR.out ?_ ?_⟩, (((((HD5.out.setR 0 _).setR 1 _).setR 2 _).setR 3 _).setR 4 _).look⟩
      · simp only [size_set]; exact fun k hk => ⟨Nat.le_of_lt (HF5.out k hk).1, (HF5.out k hk).2.2⟩
      · exact (((((Keeps.refl _ _).setCell hnr _).setCell hnr _).setCell hnr _).setCell hnr _).setCell hnr _
    | true =>
      have hT := hT.yes
      have ht5 := take_len hT
      have hcx := fun U (hU : Below W5.heap.size W5 U) => HX.out U L5 d (hd5.below hU).look.start (by omega) hd h0
      have ho5 := hd5.own
      have x0 := ho5.at_ 0 _ rfl
      have x1 := ho5.at_ 1 _ rfl
      have x2 := ho5.at_ 2 _ rfl
      have x3 := ho5.at_ 3 _ rfl
      have x4 := ho5.at_ 4 _ rfl
      have HT := Lib.hid hT; have HCX := Lib.hid hcx; have HD5 := Lib.hid hd5; have HXR := Lib.hid hX5; have HF5 := Lib.hid hF5
      clear hT hcx hd5 hX5 hF5
      clear hl5 ho5 HTK hX4 hd4 hF4
      cases hpx : prExpr f L5 with
      | error k =>
        have hx5 : R = .error k := hR4.out.trans (ats_err HT.out hm hpx)
        have hne := fun U hU => (HCX.out U hU).mono (R' := fun e W8 => e = .panicked [faultV k] ∧ ∃ L8 d8, Look b F W W8 L8 d8 ∧ d ≤ d8 ∧ d8 ≤ d + 1) (fun e W8 hh => by
          rcases hh with ⟨n, L8, _, h1, _⟩ | ⟨k', L8, d8, h1, rfl, h3, h4, h5⟩
          · rw [hpx] at h1; cases h1
          · rw [hpx] at h1; cases h1; exact ⟨rfl, L8, d8, (HD5.out.below hU).look.trans h3, h4, h5⟩)
        have HX8 := Lib.hid hx5; have HNE := Lib.hid hne
        clear hx5 hne
        clear HCX hpx hR4
        go_wp2_with fail
        refine wp_region_panics [] (fun c W8 => c = [faultV k] ∧ ∃ L8 d8, Look b F W W8 L8 d8 ∧ d ≤ d8 ∧ d8 ≤ d + 1) ?_ ?_
        · rintro c ⟨tm, df⟩ W8 rfl ⟨rfl, L8, d8, hr8, h81, h82⟩
          exact ⟨rfl, .inr ⟨k, L8, d8, HX8.out, rfl, hr8, h81, h82⟩⟩
        refine wp_region_held_drew (S := fun w' => w'.cell? ⟨q, 0, none⟩ = some (.int .i64 x.kind) ∧ w'.cell? ⟨q, 1, none⟩ = some (.int .i64 x.n) ∧ w'.cell? ⟨q, 2, none⟩ = some (.string x.of_) ∧ w'.cell? ⟨q, 3, none⟩ = some (.string x.s) ∧ w'.cell? ⟨q, 4, none⟩ = some (.slice A x.args.length c)) (by kernel_rfl) ⟨x0, x1, x2, x3, x4⟩ (fun hHeld => ?_)
        refine wpAnyH_take (i := 1) (v := ?_) rfl (by kernel_rfl) (by kernel_rfl) (by kernel_rfl) (fun _ _ _ h => h) (Or.inl ⟨by rfl, ?_⟩) (by assumption) ?_
        rotate_left
        · intro w hSw; (try dsimp only at hSw); go_simp; try with_reducible rfl
        simp only [Act.put, List.setIfInBounds_toArray]
        refine wpAnyH_take (i := 0) (v := ?_) rfl (by kernel_rfl) (by kernel_rfl) (by kernel_rfl) (fun _ _ _ h => h) (Or.inl ⟨by rfl, ?_⟩) (by assumption) ?_
        rotate_left
        · intro w hSw; (try dsimp only at hSw); go_simp; try with_reducible rfl
        simp only [Act.put]
        refine wpAnyH_ready (rs := [2]) (by kernel_rfl) (by simp) ?_
        refine AllReadyH.cons rfl (fun K hK => ?_) AllReadyH.nil
        go_simp
        refine (HNE.out _ (by go_grown)).mono ?_
        rintro e W8 ⟨rfl, hh⟩
        exact ⟨rfl, rfl, hh⟩
      | ok a =>
        obtain ⟨y, L6⟩ := a
        have hs6 := short_expr f _ _ _ hpx
        have hne := fun U hU => (HCX.out U hU).mono (R' := fun e W8 => ∃ A2 c2, e = .returned (.agg #[.int .i64 y.kind, .int .i64 y.n, .string y.of_, .string y.s, .slice A2 y.args.length c2]) ∧ ExR W8 (fresh U.heap.size W8.heap.size) [.int .i64 y.kind, .int .i64 y.n, .string y.of_, .string y.s, .slice A2 y.args.length c2] y ∧ Look b F U W8 L6 d) (fun e W8 hh => by
          rcases hh with ⟨n, L8, _, h1, rfl, ⟨cs, rfl, h2⟩, h3⟩ | ⟨k', L8, d8, h1, _⟩
          · rw [hpx] at h1; cases h1
            obtain ⟨A2, c2, rfl⟩ := ExR.form h2
            exact ⟨A2, c2, rfl, h2, h3⟩
          · rw [hpx] at h1; cases h1)
        have hqb : q ≠ b := by have := HD5.out.far; omega
        have HNE := Lib.hid hne; have HPX := Lib.hid hpx
        clear hne hpx
        clear HCX
        go_upto_region 3 with fail
        go_cut [] (fun wc => ∃ (A' : Option Addr) (c' : Nat) (G' : Foot), Aside (Duo b F W q #[.int .i64 0, .int .i64 0, .string ⟨#[]⟩, .string ⟨#[]⟩, .slice none 0 0] #[.int .i64 7, .int .i64 0, .string ⟨#[]⟩, .string ⟨#[]⟩, .slice A' 2 c'] wc L6 d) ∧
          Aside (ExR wc G' [.int .i64 7, .int .i64 0, .string mt, .string mt, .slice A' 2 c'] (atOf x y)) ∧ Aside (Fit W q wc G'))
        case first =>
          go_region_law (go_simp; go_at_call 197; (with_reducible refine (HNE.out _ (by go_grown)).mono ?_); rintro e W8 ⟨A2, c2, rfl, hY, hl8⟩; have hd8 := (HD5.out.below (by go_grown)).go hl8; have ho8 := hd8.own; have x0 := ho8.at_ 0 _ rfl; have x1 := ho8.at_ 1 _ rfl; have x2 := ho8.at_ 2 _ rfl; have x3 := ho8.at_ 3 _ rfl; have x4 := ho8.at_ 4 _ rfl; have g0 := ho8.free 0; have g1 := ho8.free 1; have g2 := ho8.free 2; have g3 := ho8.free 3; have g4 := ho8.free 4; have hq8 : W8.heap.size ≠ q := Nat.ne_of_gt ho8.lt; have t0 := fun o => (ho8.alloc o).at_ 0 _ rfl; have t1 := fun o => (ho8.alloc o).at_ 1 _ rfl; have t2 := fun o => (ho8.alloc o).at_ 2 _ rfl; have t3 := fun o => (ho8.alloc o).at_ 3 _ rfl; have t4 := fun o => (ho8.alloc o).at_ 4 _ rfl; have k0 := fun o => (ho8.alloc o).free 0; have k1 := fun o => (ho8.alloc o).free 1; have k2 := fun o => (ho8.alloc o).free 2; have k3 := fun o => (ho8.alloc o).free 3; have k4 := fun o => (ho8.alloc o).free 4; have HD8 := Lib.hid hd8; have HYR := Lib.hid hY; have HL8 := Lib.hid hl8; clear hd8 ho8 hY hl8)
          all_goals
            (try go_wp2_with fail)
            go_meet
            have hg8 : Grew b W5 W8 (some b) := HL8.out.grew.drew_
            have hq5 := HD5.out.own.lt
            have hX9 := rex_two 81 HXR.out HF5.out hg8 hbl HYR.out (k := 7) rex_I64.2.2.2.2.2.2.2
            have hF9 := HF5.out.two hg8.size hq5 HD5.out.far (.cells (([.int .i64 x.kind, .int .i64 x.n, .string x.of_, .string x.s, .slice A x.args.length c] : List Value) ++ ([.int .i64 y.kind, .int .i64 y.n, .string y.of_, .string y.s, .slice A2 y.args.length c2] : List Value)).toArray 81)
            have hnq : ¬ two_ G W5.heap.size W8.heap.size q := fun h => (hF9 _ h).2.1 rfl
            refine ⟨some ⟨W8.heap.size, 0, none⟩, 2, two_ G W5.heap.size W8.heap.size, aside ?_, aside (ExR.stays _ _ _ _ _ _ hX9 (fun _ h => h) ?_), aside ?_⟩
            · simpa using (((((HD8.out.alloc _).setX 0 (.int .i64 7)).setX 1 (.int .i64 0)).setX 2 (.string ⟨#[]⟩)).setX 3 (.string ⟨#[]⟩)).setX 4 (.slice (some ⟨W8.heap.size, 0, none⟩) 2 2)
            · exact (((((Keeps.refl _ _).setCell hnq _).setCell hnq _).setCell hnq _).setCell hnq _).setCell hnq _
            · intro k hk; simp only [size_set]; exact hF9 k hk
        case rest =>
          obtain ⟨A', c', G', hd9, hX9, hF9⟩ := hcut
          obtain ⟨W9, rfl⟩ : ∃ W, W = wc := ⟨_, rfl⟩
          have hms := must_any hd9.out.look.start sRb
          have HMS := Lib.hid hms
          clear hms
          clear x0 x1 x2 x3 x4 HNE HD5 HXR HF5
          go_wp2_with fail
          refine HMS.out.mono ?_
          rintro e W10 ⟨L10, (⟨rfl, hm10, hl10⟩ | ⟨rfl, hm10, hl10⟩)⟩
          · have hx10 : R = prAts (prExpr f) (m - 1) (atOf x y) L10 := hR4.out.trans (ats_ok HT.out hm HPX.out hm10)
            have hd10 := hd9.out.go hl10
            have hX10 : ExR W10 G' _ _ := ExR.stays _ _ _ _ _ _ hX9.out (fun _ h => h) (keeps_of_heap fun k hk => hl10.grew.block k (hF9.out k hk).2.2 (fun e => by injection e with e; have := (hF9.out k hk).1; omega))
            have hF10 : Fit W q W10 G' := fun k hk => ⟨(hF9.out k hk).1, (hF9.out k hk).2.1, by have := (hF9.out k hk).2.2; have := hl10.size; omega⟩
            have ht10 := take_len hm10
            have HX10 := Lib.hid hx10; have HD10 := Lib.hid hd10; have HXR10 := Lib.hid hX10; have HF10 := Lib.hid hF10
            clear hx10 hd10 hX10 hF10
            clear hl10 hm10 hd9 hX9 hF9 HMS hR4
            go_wp2_with fail
            go_roundg L10.length
            case measure => omega
            case rel => exact ⟨m - 1, c', A', atOf x y, L10, G', Nat.le_refl _, by omega, by omega, aside HX10.out, aside HD10.out, aside HXR10.out, aside HF10.out⟩
          · have hx10 : R = .error 4 := hR4.out.trans (ats_no HT.out hm HPX.out hm10)
            have hl10' := hd9.out.look.trans hl10
            have HX10 := Lib.hid hx10; have HL10 := Lib.hid hl10'
            clear hx10 hl10'
            clear hl10 hm10
            go_wp2_with fail
            exact ⟨rfl, .inr ⟨4, L10, d, HX10.out, rfl, HL10.out, Int.le_refl _, by omega⟩⟩

end Go.Proofs.YtjaladhdnbhliaaGreatDoor

/- An expression that is next: (*tree.reader).expr. -/
namespace Go.Proofs.YtjaladhdnbhliaaGreatDoor
open Go.RowKit Go.Shelf

/-- Where expr stands: as a function that has gone deeper, with a variable's block. -/
structure Trio (b : Nat) (F : Foot) (W : World) (q p : Nat) (rc xc : Array Value) (W' : World) (L : List Token) (d : Int) : Prop where
  room : Room b F W 81 rc q W' L d
  own : Box W' p 81 xc
  far2 : q < p
section
variable {b : Nat} {F : Foot} {W : World} {q p : Nat} {rc xc : Array Value} {W' W2 : World} {L L2 : List Token} {d d2 : Int}
theorem Trio.go (h : Trio b F W q p rc xc W' L d) (k : Look b F W' W2 L2 d2) : Trio b F W q p rc xc W2 L2 d2 :=
  ⟨h.room.go k, k.grew.box_ h.own (by have := h.room.lt; have := h.room.far; have := h.far2; omega), h.far2⟩
theorem Trio.below (h : Trio b F W q p rc xc W' L d) (hb : Below W'.heap.size W' W2) : Trio b F W q p rc xc W2 L d :=
  ⟨h.room.below hb, h.own.later hb h.own.lt, h.far2⟩
theorem Trio.alloc (h : Trio b F W q p rc xc W' L d) (o : Obj) : Trio b F W q p rc xc (W'.alloc o) L d := h.below ((Below.refl _ _).alloc (Nat.le_refl _) o)
theorem Trio.setX (h : Trio b F W q p rc xc W' L d) (i : Nat) (u : Value) : Trio b F W q p rc (xc.setIfInBounds i u) (W'.setCell ⟨p, i, none⟩ u) L d :=
  ⟨⟨h.room.look.set (by have := h.room.far; have := h.far2; show W.heap.size ≤ p; omega) h.room.lt u, h.room.res.far (by have := h.room.far; have := h.far2; show W.heap.size ≠ p; omega) u, h.room.held.far (by have := h.far2; show q ≠ p; omega) u, h.room.far, h.room.lt⟩, h.own.put i u, h.far2⟩
end

set_option maxRecDepth 100000 in
set_option maxHeartbeats 1000000 in
/-- It leaves with an expression. -/
theorem Room.expr_ {b q : Nat} {F G : Foot} {W W' : World} {c0 c1 c2 c3 c4 : Value} {L : List Token} {d : Int} {x : Ex} {r : Except Int (Ex × List Token)} {tmps : Array Value} (h : Room b F W 81 #[c0, c1, c2, c3, c4] q W' L (d + 1)) (h0 : 0 ≤ d) (h1 : d ≤ 100) (ht : tmps[2]? = some (.pointer (some ⟨W.heap.size, 0, none⟩)))
    (hr : r = .ok (x, L)) (hX : ExR W' G [c0, c1, c2, c3, c4] x) (hG : ∀ k, G k → fresh W.heap.size W'.heap.size k) :
    Leaves Tryz.prog Tryz.f197 tmps (Gave (AggV ExR) b F W W d r) [{ target := .fn (.func 247) #[.pointer (some ⟨q, 0, none⟩)], args := #[] }] .returning W' := by
  have e : d + 1 - 1 = d := by omega
  refine door_deeper_fine h.look h.held (by omega) (by omega) ?_
  rw [e]
  refine fun hl => ⟨.agg #[c0, c1, c2, c3, c4], ?_, .inl ⟨x, L, _, hr, rfl, ⟨[c0, c1, c2, c3, c4], rfl, ?_⟩, ?_⟩⟩
  · have hb := h.res.far (p := ⟨b, 1, none⟩) (show W.heap.size ≠ b by have := h.lt; omega) (.int .i64 d)
    have b0 := h.res.at_ 0 _ rfl
    have b1 := h.res.at_ 1 _ rfl
    have b2 := h.res.at_ 2 _ rfl
    have b3 := h.res.at_ 3 _ rfl
    have b4 := h.res.at_ 4 _ rfl
    have a0 := hb.at_ 0 _ rfl
    have a1 := hb.at_ 1 _ rfl
    have a2 := hb.at_ 2 _ rfl
    have a3 := hb.at_ 3 _ rfl
    have a4 := hb.at_ 4 _ rfl
    simp [results, Tryz.results197, go_sem, ht, a0, a1, a2, a3, a4]
  · rw [size_set]
    exact ExR.stays _ _ _ _ _ _ hX hG ((Keeps.refl _ _).setCell (fun hb => by have h1 : W.heap.size ≤ b := (hG _ hb).1; have := h.lt; omega) _)
  · exact hl

set_option maxRecDepth 100000 in
set_option maxHeartbeats 4000000 in
theorem rexpr_any {b : Nat} {F : Foot} : ∀ f : Nat, ExGives b F f := by
  intro f
  induction f with
  | zero =>
    intro W L d h hl hd h0
    have hdp := fun U (hU : Below W.heap.size W U) => deeper_any (h.below hU) h0 (by omega)
    obtain ⟨R, hR⟩ : ∃ R, prExpr 0 L = R := ⟨_, rfl⟩
    rw [hR]
    have HDP := Lib.hid hdp; have HR := Lib.hid hR
    clear hdp hR
    clear h
    go_enter_defers Tryz.func197, Tryz.ntmps197
    go_upto_region 1 with fail
    have hBr := Box.made W 81 #[.int .i64 0, .int .i64 0, .string ⟨#[]⟩, .string ⟨#[]⟩, .slice none 0 0]
    have hbr : Below W.heap.size W (W.alloc (.cells #[.int .i64 0, .int .i64 0, .string ⟨#[]⟩, .string ⟨#[]⟩, .slice none 0 0] 81)) := by go_grown
    have hzr : (W.alloc (.cells #[.int .i64 0, .int .i64 0, .string ⟨#[]⟩, .string ⟨#[]⟩, .slice none 0 0] 81)).heap.size = W.heap.size + 1 := by simp
    generalize W.alloc (.cells #[.int .i64 0, .int .i64 0, .string ⟨#[]⟩, .string ⟨#[]⟩, .slice none 0 0] 81) = W1 at hBr hbr hzr ⊢
    have Hb := Lib.hid hbr
    clear hbr
    clear hBr hzr
    go_wp2_with fail
    refine (HDP.out _ Hb.out).mono ?_
    rintro e W2 (⟨h1, _⟩ | ⟨_, rfl, hL⟩)
    · omega
    · have HL := Lib.hid hL; clear hL
      go_wp2_with fail
      exact .inr ⟨1, L, d + 1, HR.out.symm, rfl, HL.out, by omega, by omega⟩
  | succ f ih =>
    intro W L d h hl hd h0
    have hdp := fun U (hU : Below W.heap.size W U) => deeper_any (h.below hU).start h0 (by omega)
    obtain ⟨R, hR⟩ : ∃ R, prExpr (f + 1) L = R := ⟨_, rfl⟩
    rw [hR]
    have hbl := h.lt
    have hpo := fun U L d h hl hd h0 => rpost_any ih U L d h hl hd h0
    have HDP := Lib.hid hdp; have HR := Lib.hid hR; have IH := Lib.hid ih; have HH := Lib.hid h; have HPO := Lib.hid hpo
    clear hdp hR ih h hpo
    go_enter_defers Tryz.func197, Tryz.ntmps197
    go_upto_region 1 with fail
    have hBr := Box.made W 81 #[.int .i64 0, .int .i64 0, .string ⟨#[]⟩, .string ⟨#[]⟩, .slice none 0 0]
    have hbr : Below W.heap.size W (W.alloc (.cells #[.int .i64 0, .int .i64 0, .string ⟨#[]⟩, .string ⟨#[]⟩, .slice none 0 0] 81)) := by go_grown
    have hzr : (W.alloc (.cells #[.int .i64 0, .int .i64 0, .string ⟨#[]⟩, .string ⟨#[]⟩, .slice none 0 0] 81)).heap.size = W.heap.size + 1 := by simp
    generalize W.alloc (.cells #[.int .i64 0, .int .i64 0, .string ⟨#[]⟩, .string ⟨#[]⟩, .slice none 0 0] 81) = W1 at hBr hbr hzr ⊢
    have Hb := Lib.hid hbr; have HBr := Lib.hid hBr
    clear hbr hBr
    clear hzr
    go_wp2_with fail
    refine (HDP.out _ Hb.out).mono ?_
    rintro e W2 (⟨_, q, rfl, hq, hql, hL⟩ | ⟨h1, _⟩)
    rotate_left
    · omega
    have hr2 : Room b F W 81 #[.int .i64 0, .int .i64 0, .string ⟨#[]⟩, .string ⟨#[]⟩, .slice none 0 0] q W2 L (d + 1) := ⟨(HH.out.below Hb.out).trans hL, hL.grew.box_ HBr.out (by omega), hq, Nat.lt_of_lt_of_le HBr.out.lt hql, hbl⟩
    have hcp := HPO.out W2 L (d + 1) hr2.start hl (by omega) (by omega)
    have HR2 := Lib.hid hr2; have HCP := Lib.hid hcp
    clear hr2 hcp
    clear hL hq hql
    go_wp2_with fail
    refine HCP.out.mono ?_
    rintro e W3 (⟨x, L3, v, hn, rfl, ⟨cs, rfl, hX⟩, hl3⟩ | ⟨k, L3, d3, hn, rfl, hl3, h1, h2⟩)
    rotate_left
    · have hx3 : R = .error k := by rw [← HR.out]; exact prThen_err hn
      have hr3 := HR2.out.go hl3
      have HX3 := Lib.hid hx3; have HR3 := Lib.hid hr3
      clear hx3 hr3
      clear hl3 hn
      go_wp2_with fail
      exact HR3.out.out HX3.out h0 (by omega) (by omega) (by omega)
    have hx3 : R = prSums (prPost (prExpr f)) L3.length x L3 := by rw [← HR.out]; exact prThen_ok hn
    have hs3 := short_post (short_expr f) _ _ _ hn
    have hr3 := HR2.out.go hl3
    have hw3 := hl3.size
    have hw2 := HR2.out.res.lt
    have hq3 := hr3.held.lt
    have hq2 := HR2.out.held.lt
    obtain ⟨A, c, rfl⟩ := ExR.form hX
    have HX3 := Lib.hid hx3; have HR3 := Lib.hid hr3; have HXR := Lib.hid hX
    clear hx3 hr3 hX
    clear hl3 hn HR2 HCP
    go_wp2_with fail
    have hBx := Box.made W3 81 #[.int .i64 x.kind, .int .i64 x.n, .string x.of_, .string x.s, .slice A x.args.length c]
    have hbx : Below W3.heap.size W3 (W3.alloc (.cells #[.int .i64 x.kind, .int .i64 x.n, .string x.of_, .string x.s, .slice A x.args.length c] 81)) := by go_grown
    have hzx : (W3.alloc (.cells #[.int .i64 x.kind, .int .i64 x.n, .string x.of_, .string x.s, .slice A x.args.length c] 81)).heap.size = W3.heap.size + 1 := by simp
    generalize W3.alloc (.cells #[.int .i64 x.kind, .int .i64 x.n, .string x.of_, .string x.s, .slice A x.args.length c] 81) = W4 at hBx hbx hzx ⊢
    have hd4 : Trio b F W q W3.heap.size _ _ W4 L3 (d + 1) := ⟨HR3.out.below hbx, hBx, hq3⟩
    have hX4 := ExR.stays.later HXR.out hbx fresh_lt
    have hw4 := hbx.size
    obtain ⟨p, hpe⟩ : ∃ p, W3.heap.size = p := ⟨_, rfl⟩
    have hfit : Fit W p W4 (fresh W2.heap.size W3.heap.size) := fun k hk => ⟨by have := hk.1; omega, by have := hk.2; omega, by have := hk.2; omega⟩
    rw [hpe] at hd4 hq3 ⊢
    have hWp : W.heap.size < p := by have := HR3.out.far; omega
    have HD4 := Lib.hid hd4; have HX4 := Lib.hid hX4; have HFIT := Lib.hid hfit
    clear hd4 hX4 hfit
    clear hbx hzx hBx HR3 HXR hpe
    go_loopg [] L3.length (fun gg wr => ∃ (m c : Nat) (A : Option Addr) (x : Ex) (L4 : List Token) (G : Foot), L4.length ≤ gg ∧ L4.length ≤ m ∧ L4.length ≤ 200 ∧ Aside (R = prSums (prPost (prExpr f)) m x L4) ∧
      Aside (Trio b F W q p #[.int .i64 0, .int .i64 0, .string ⟨#[]⟩, .string ⟨#[]⟩, .slice none 0 0] #[.int .i64 x.kind, .int .i64 x.n, .string x.of_, .string x.s, .slice A x.args.length c] wr L4 (d + 1)) ∧
      Aside (ExR wr G [.int .i64 x.kind, .int .i64 x.n, .string x.of_, .string x.s, .slice A x.args.length c] x) ∧ Aside (Fit W p wr G))
    case atStart => exact ⟨L3.length, c, A, x, L3, _, Nat.le_refl _, Nat.le_refl _, by omega, aside HX3.out, aside HD4.out, aside HX4.out, aside HFIT.out⟩
    case round =>
      clear HD4 HX4 HFIT HX3
      obtain ⟨m, c, A, x, L4, G, hg, hm, h200, hR4, hd4, hX4, hF4⟩ := hrel
      obtain ⟨W4, rfl⟩ : ∃ W, W = wr := ⟨_, rfl⟩
      have htk := take_any hd4.out.room.look.start sPlus
      have HTK := Lib.hid htk
      clear htk
      go_wp2_with fail
      refine HTK.out.mono ?_
      rintro e W5 ⟨z, L5, rfl, hT, hl5⟩
      have hd5 := hd4.out.go hl5
      have hw5 := hl5.size
      have hX5 : ExR W5 G _ x := ExR.stays _ _ _ _ _ _ hX4.out (fun _ h => h) (keeps_of_heap fun k hk => hl5.grew.block k (hF4.out k hk).2.2 (fun e => by injection e with e; have := (hF4.out k hk).1; omega))
      have hF5 : Fit W p W5 G := fun k hk => ⟨(hF4.out k hk).1, (hF4.out k hk).2.1, by have := (hF4.out k hk).2.2; omega⟩
      cases z with
      | false =>
        obtain ⟨hT, rfl⟩ := hT.no
        have hx5 : R = .ok (x, L5) := hR4.out.trans (sums_stop hT)
        have hr5 := hd5.room.res
        have ho5 := hd5.own
        have r0 := hr5.at_ 0 _ rfl
        have r1 := hr5.at_ 1 _ rfl
        have r2 := hr5.at_ 2 _ rfl
        have r3 := hr5.at_ 3 _ rfl
        have r4 := hr5.at_ 4 _ rfl
        have g0 := hr5.free 0
        have g1 := hr5.free 1
        have g2 := hr5.free 2
        have g3 := hr5.free 3
        have g4 := hr5.free 4
        have x0 := ho5.at_ 0 _ rfl
        have x1 := ho5.at_ 1 _ rfl
        have x2 := ho5.at_ 2 _ rfl
        have x3 := ho5.at_ 3 _ rfl
        have x4 := ho5.at_ 4 _ rfl
        have HX5 := Lib.hid hx5; have HD5 := Lib.hid hd5; have HXR := Lib.hid hX5; have HF5 := Lib.hid hF5
        clear hx5 hd5 hX5 hF5
        clear hl5 hr5 ho5 hT HTK hX4 hd4 hF4 hR4
        go_wp2_with fail
        have hnr : ¬ G W.heap.size := fun h => Nat.lt_irrefl _ (HF5.out _ h).1
        refine Room.expr_ (G := G) (((((HD5.out.room.set 0 _).set 1 _).set 2 _).set 3 _).set 4 _) h0 (by omega) rfl HX5.out (ExR.stays _ _ _ _ _ _ HXR.out (fun _ h => h) ?_) ?_
        · exact (((((Keeps.refl _ _).setCell hnr _).setCell hnr _).setCell hnr _).setCell hnr _).setCell hnr _
        · simp only [size_set]; exact fun k hk => ⟨Nat.le_of_lt (HF5.out k hk).1, (HF5.out k hk).2.2⟩
      | true =>
        have hT := hT.yes
        have ht5 := take_len hT
        have hcx := fun U (hU : Below W5.heap.size W5 U) => HPO.out U L5 (d + 1) (hd5.below hU).room.look.start (by omega) (by omega) (by omega)
        have ho5 := hd5.own
        have x0 := ho5.at_ 0 _ rfl
        have x1 := ho5.at_ 1 _ rfl
        have x2 := ho5.at_ 2 _ rfl
        have x3 := ho5.at_ 3 _ rfl
        have x4 := ho5.at_ 4 _ rfl
        have HT := Lib.hid hT; have HCX := Lib.hid hcx; have HD5 := Lib.hid hd5; have HXR := Lib.hid hX5; have HF5 := Lib.hid hF5
        clear hT hcx hd5 hX5 hF5
        clear hl5 ho5 HTK hX4 hd4 hF4
        cases hpx : prPost (prExpr f) L5 with
        | error k =>
          have hx5 : R = .error k := hR4.out.trans (sums_err HT.out hm hpx)
          have hne := fun U hU => (HCX.out U hU).mono (R' := fun e W8 => e = .panicked [faultV k] ∧ ∃ L8 d8, Room b F W 81 #[.int .i64 0, .int .i64 0, .string ⟨#[]⟩, .string ⟨#[]⟩, .slice none 0 0] q W8 L8 d8 ∧ d + 1 ≤ d8 ∧ d8 ≤ d + 2) (fun e W8 hh => by
            rcases hh with ⟨n, L8, _, h1, _⟩ | ⟨k', L8, d8, h1, rfl, h3, h4, h5⟩
            · rw [hpx] at h1; cases h1
            · rw [hpx] at h1; cases h1; exact ⟨rfl, L8, d8, (HD5.out.below hU).room.go h3, h4, by omega⟩)
          have HX8 := Lib.hid hx5; have HNE := Lib.hid hne
          clear hx5 hne
          clear HCX hpx hR4
          go_wp2_with fail
          refine wp_region_panics [{ target := .fn (.func 247) #[.pointer (some ⟨q, 0, none⟩)], args := #[] }] (fun c W8 => c = [faultV k] ∧ ∃ L8 d8, Room b F W 81 #[.int .i64 0, .int .i64 0, .string ⟨#[]⟩, .string ⟨#[]⟩, .slice none 0 0] q W8 L8 d8 ∧ d + 1 ≤ d8 ∧ d8 ≤ d + 2) ?_ ?_
          · rintro c ⟨tm, df⟩ W8 rfl ⟨rfl, L8, d8, hr8, h81, h82⟩
            exact hr8.out HX8.out h0 h81 h82 (by omega)
          refine wp_region_held_drew (S := fun w' => w'.cell? ⟨p, 0, none⟩ = some (.int .i64 x.kind) ∧ w'.cell? ⟨p, 1, none⟩ = some (.int .i64 x.n) ∧ w'.cell? ⟨p, 2, none⟩ = some (.string x.of_) ∧ w'.cell? ⟨p, 3, none⟩ = some (.string x.s) ∧ w'.cell? ⟨p, 4, none⟩ = some (.slice A x.args.length c)) (by kernel_rfl) ⟨x0, x1, x2, x3, x4⟩ (fun hHeld => ?_)
          refine wpAnyH_take (i := 1) (v := ?_) rfl (by kernel_rfl) (by kernel_rfl) (by kernel_rfl) (fun _ _ _ h => h) (Or.inl ⟨by rfl, ?_⟩) (by assumption) ?_
          rotate_left
          · intro w hSw; (try dsimp only at hSw); go_simp; try with_reducible rfl
          simp only [Act.put, List.setIfInBounds_toArray]
          refine wpAnyH_take (i := 0) (v := ?_) rfl (by kernel_rfl) (by kernel_rfl) (by kernel_rfl) (fun _ _ _ h => h) (Or.inl ⟨by rfl, ?_⟩) (by assumption) ?_
          rotate_left
          · intro w hSw; (try dsimp only at hSw); go_simp; try with_reducible rfl
          simp only [Act.put]
          refine wpAnyH_ready (rs := [2]) (by kernel_rfl) (by simp) ?_
          refine AllReadyH.cons rfl (fun K hK => ?_) AllReadyH.nil
          go_simp
          refine (HNE.out _ (by go_grown)).mono ?_
          rintro e W8 ⟨rfl, hh⟩
          exact ⟨rfl, rfl, hh⟩
        | ok a =>
          obtain ⟨y, L6⟩ := a
          have hs6 := short_post (short_expr f) _ _ _ hpx
          have hne := fun U hU => (HCX.out U hU).mono (R' := fun e W8 => ∃ A2 c2, e = .returned (.agg #[.int .i64 y.kind, .int .i64 y.n, .string y.of_, .string y.s, .slice A2 y.args.length c2]) ∧ ExR W8 (fresh U.heap.size W8.heap.size) [.int .i64 y.kind, .int .i64 y.n, .string y.of_, .string y.s, .slice A2 y.args.length c2] y ∧ Look b F U W8 L6 (d + 1)) (fun e W8 hh => by
            rcases hh with ⟨n, L8, _, h1, rfl, ⟨cs, rfl, h2⟩, h3⟩ | ⟨k', L8, d8, h1, _⟩
            · rw [hpx] at h1; cases h1
              obtain ⟨A2, c2, rfl⟩ := ExR.form h2
              exact ⟨A2, c2, rfl, h2, h3⟩
            · rw [hpx] at h1; cases h1)
          have hx6 : R = prSums (prPost (prExpr f)) (m - 1) (sumOf x y) L6 := hR4.out.trans (sums_ok HT.out hm hpx)
          have HNE := Lib.hid hne; have HX6 := Lib.hid hx6
          clear hne hx6
          clear HCX hpx hR4
          go_upto_region 4 with fail
          refine wp_region_noPanic ?_
          go_region_law (go_simp; go_at_call 248; (with_reducible refine (HNE.out _ (by go_grown)).mono ?_); rintro e W8 ⟨A2, c2, rfl, hY, hl8⟩; have hd8 := (HD5.out.below (by go_grown)).go hl8; have ho8 := hd8.own; have x0 := ho8.at_ 0 _ rfl; have x1 := ho8.at_ 1 _ rfl; have x2 := ho8.at_ 2 _ rfl; have x3 := ho8.at_ 3 _ rfl; have x4 := ho8.at_ 4 _ rfl; have g0 := ho8.free 0; have g1 := ho8.free 1; have g2 := ho8.free 2; have g3 := ho8.free 3; have g4 := ho8.free 4; have hq8 : W8.heap.size ≠ p := Nat.ne_of_gt ho8.lt; have t0 := fun o => (ho8.alloc o).at_ 0 _ rfl; have t1 := fun o => (ho8.alloc o).at_ 1 _ rfl; have t2 := fun o => (ho8.alloc o).at_ 2 _ rfl; have t3 := fun o => (ho8.alloc o).at_ 3 _ rfl; have t4 := fun o => (ho8.alloc o).at_ 4 _ rfl; have k0 := fun o => (ho8.alloc o).free 0; have k1 := fun o => (ho8.alloc o).free 1; have k2 := fun o => (ho8.alloc o).free 2; have k3 := fun o => (ho8.alloc o).free 3; have k4 := fun o => (ho8.alloc o).free 4; have HD8 := Lib.hid hd8; have HYR := Lib.hid hY; have HL8 := Lib.hid hl8; clear hd8 ho8 hY hl8)
          all_goals
            refine NoPanic.normal ?_
            (try go_wp2_with fail)
            go_roundg L6.length
            case measure => omega
            case rel =>
              have hg8 : Grew b W5 W8 (some b) := HL8.out.grew.drew_
              have hq5 := HD5.out.own.lt
              have hX9 := rex_two 81 HXR.out HF5.out hg8 hbl HYR.out (k := 5) rex_I64.2.2.2.2.2.1
              have hF9 := HF5.out.two hg8.size hq5 hWp (.cells (([.int .i64 x.kind, .int .i64 x.n, .string x.of_, .string x.s, .slice A x.args.length c] : List Value) ++ ([.int .i64 y.kind, .int .i64 y.n, .string y.of_, .string y.s, .slice A2 y.args.length c2] : List Value)).toArray 81)
              have hnq : ¬ two_ G W5.heap.size W8.heap.size p := fun h => (hF9 _ h).2.1 rfl
              refine ⟨m - 1, 2, some ⟨W8.heap.size, 0, none⟩, sumOf x y, L6, two_ G W5.heap.size W8.heap.size, Nat.le_refl _, by omega, by omega, aside HX6.out, aside ?_, aside (ExR.stays _ _ _ _ _ _ hX9 (fun _ h => h) ?_), aside ?_⟩
              · show Trio b F W q p _ #[.int .i64 5, .int .i64 0, .string ⟨#[]⟩, .string ⟨#[]⟩, .slice (some ⟨W8.heap.size, 0, none⟩) 2 2] _ L6 (d + 1)
                simpa using (((((HD8.out.alloc _).setX 0 (.int .i64 5)).setX 1 (.int .i64 0)).setX 2 (.string ⟨#[]⟩)).setX 3 (.string ⟨#[]⟩)).setX 4 (.slice (some ⟨W8.heap.size, 0, none⟩) 2 2)
              · exact (((((Keeps.refl _ _).setCell hnq _).setCell hnq _).setCell hnq _).setCell hnq _).setCell hnq _
              · intro k hk; simp only [size_set]; exact hF9 k hk

end Go.Proofs.YtjaladhdnbhliaaGreatDoor

/- A type that is next: (*tree.reader).kind. -/
namespace Go.Proofs.YtjaladhdnbhliaaGreatDoor
open Go.RowKit Go.Shelf

theorem rty_I64 : I64 1 ∧ I64 2 ∧ I64 3 ∧ I64 4 := ⟨⟨by decide, by decide⟩, ⟨by decide, by decide⟩, ⟨by decide, by decide⟩, ⟨by decide, by decide⟩⟩
/-- A type without arguments. -/
theorem rty_plain (w : World) (F : Foot) {k : Int} {o nm : ByteArray} (hk : I64 k) (ho : okS o) (hn : okS nm) : TyR w F [.int .i64 k, .string o, .string nm, .slice none 0 0] (.mk k o nm []) := ⟨1, _, rfl, hk, ho, hn, SliceOf.nil_⟩
/-- A slice of one. -/
theorem rslice_one {α : Type} {R : CR α} {sz by_ : Nat} {F : Foot} {w : World} {n : Nat} {t : TypeId} {cs : List Value} {x : α} (hB : Box w n t cs.toArray) (hR : R w F cs x) (hc : cs.length = sz) (hF : F n) (hb : by_ ≤ 140737488355328) : SliceOf R sz by_ w F (.slice (some ⟨n, 0, none⟩) 1 1) [x] := by
  refine ⟨_, 1, rfl, Nat.le_refl _, by unfold maxLen; omega, by simpa using hb, by simp, fun _ => ⟨n, 0, rfl, hF, fun i y hi => ?_⟩⟩
  cases i with
  | succ i => simp at hi
  | zero =>
    simp only [List.getElem?_cons_zero, Option.some.injEq] at hi
    subst hi
    refine ⟨cs, hc, hR, fun j u hj => ?_⟩
    rw [Nat.zero_mul, Nat.add_zero, Nat.zero_add]
    exact hB.at_ j u (by simpa using hj)
theorem rty_len {w : World} {F : Foot} {cs : List Value} {x : Ty} (h : TyR w F cs x) : cs.length = 4 := by
  obtain ⟨A, c, rfl⟩ := TyR.form h
  rfl
/-- A list of a type. -/
theorem rty_list {w : World} {F : Foot} {n : Nat} {t : TypeId} {cs : List Value} {x : Ty} (hB : Box w n t cs.toArray) (hR : TyR w F cs x) (hF : F n) : TyR w F [.int .i64 3, .string mt, .string mt, .slice (some ⟨n, 0, none⟩) 1 1] (.mk 3 mt mt [x]) := by
  have hl := rty_len hR
  obtain ⟨m, h⟩ := hR
  exact ⟨m + 1, _, rfl, rty_I64.2.2.1, mt_ok, mt_ok, rslice_one hB h hl hF (by decide)⟩

set_option maxRecDepth 100000 in
set_option maxHeartbeats 1000000 in
/-- It leaves with a type. -/
theorem Room.kind_ {b q : Nat} {F G : Foot} {W W' : World} {c0 c1 c2 c3 : Value} {L : List Token} {d : Int} {x : Ty} {r : Except Int (Ty × List Token)} {tmps : Array Value} (h : Room b F W 75 #[c0, c1, c2, c3] q W' L (d + 1)) (h0 : 0 ≤ d) (h1 : d ≤ 100) (ht : tmps[2]? = some (.pointer (some ⟨W.heap.size, 0, none⟩)))
    (hr : r = .ok (x, L)) (hX : TyR W' G [c0, c1, c2, c3] x) (hG : ∀ k, G k → fresh W.heap.size W'.heap.size k) :
    Leaves Tryz.prog Tryz.f126 tmps (Gave (AggV TyR) b F W W d r) [{ target := .fn (.func 247) #[.pointer (some ⟨q, 0, none⟩)], args := #[] }] .returning W' := by
  have e : d + 1 - 1 = d := by omega
  refine door_deeper_fine h.look h.held (by omega) (by omega) ?_
  rw [e]
  refine fun hl => ⟨.agg #[c0, c1, c2, c3], ?_, .inl ⟨x, L, _, hr, rfl, ⟨[c0, c1, c2, c3], rfl, ?_⟩, ?_⟩⟩
  · have hb := h.res.far (p := ⟨b, 1, none⟩) (show W.heap.size ≠ b by have := h.lt; omega) (.int .i64 d)
    have b0 := h.res.at_ 0 _ rfl
    have b1 := h.res.at_ 1 _ rfl
    have b2 := h.res.at_ 2 _ rfl
    have b3 := h.res.at_ 3 _ rfl
    have a0 := hb.at_ 0 _ rfl
    have a1 := hb.at_ 1 _ rfl
    have a2 := hb.at_ 2 _ rfl
    have a3 := hb.at_ 3 _ rfl
    simp [results, Tryz.results126, go_sem, ht, a0, a1, a2, a3]
  · rw [size_set]
    exact TyR.stays _ _ _ _ _ _ hX hG ((Keeps.refl _ _).setCell (fun hb => by have h1 : W.heap.size ≤ b := (hG _ hb).1; have := h.lt; omega) _)
  · exact hl

theorem eqb_int (s : ByteArray) : eqB s kwInt = (s.toList == [105, 110, 116]) := by unfold eqB; rw [show kwInt.toList = [105, 110, 116] by rw [ByteArray.toList_eq]; rfl]
theorem eqb_text (s : ByteArray) : eqB s kwText = (s.toList == [116, 101, 120, 116]) := by unfold eqB; rw [show kwText.toList = [116, 101, 120, 116] by rw [ByteArray.toList_eq]; rfl]

set_option maxRecDepth 100000 in
set_option maxHeartbeats 4000000 in
theorem rkind_any {b : Nat} {F : Foot} : ∀ (f : Nat) (W : World) (L : List Token) (d : Int), Look b F W W L d → d + f = 40 → 0 ≤ d →
    Calls Tryz.prog 126 #[.pointer (some ⟨b, 0, none⟩)] W (Gave (AggV TyR) b F W W d (prKind f L)) := by
  intro f
  induction f with
  | zero =>
    intro W L d h hd h0
    have hdp := fun U (hU : Below W.heap.size W U) => deeper_any (h.below hU) h0 (by omega)
    obtain ⟨R, hR⟩ : ∃ R, prKind 0 L = R := ⟨_, rfl⟩
    rw [hR]
    have HDP := Lib.hid hdp; have HR := Lib.hid hR
    clear hdp hR
    clear h
    go_enter_defers Tryz.func126, Tryz.ntmps126
    go_upto_region 1 with fail
    have hBr := Box.made W 75 #[.int .i64 0, .string ⟨#[]⟩, .string ⟨#[]⟩, .slice none 0 0]
    have hbr : Below W.heap.size W (W.alloc (.cells #[.int .i64 0, .string ⟨#[]⟩, .string ⟨#[]⟩, .slice none 0 0] 75)) := by go_grown
    have hzr : (W.alloc (.cells #[.int .i64 0, .string ⟨#[]⟩, .string ⟨#[]⟩, .slice none 0 0] 75)).heap.size = W.heap.size + 1 := by simp
    generalize W.alloc (.cells #[.int .i64 0, .string ⟨#[]⟩, .string ⟨#[]⟩, .slice none 0 0] 75) = W1 at hBr hbr hzr ⊢
    have Hb := Lib.hid hbr
    clear hbr
    clear hBr hzr
    go_wp2_with fail
    refine (HDP.out _ Hb.out).mono ?_
    rintro e W2 (⟨h1, _⟩ | ⟨_, rfl, hL⟩)
    · omega
    · have HL := Lib.hid hL; clear hL
      go_wp2_with fail
      exact .inr ⟨1, L, d + 1, HR.out.symm, rfl, HL.out, by omega, by omega⟩
  | succ f ih =>
    intro W L d h hd h0
    have hdp := fun U (hU : Below W.heap.size W U) => deeper_any (h.below hU).start h0 (by omega)
    obtain ⟨R, hR⟩ : ∃ R, prKind (f + 1) L = R := ⟨_, rfl⟩
    rw [hR]
    have hbl := h.lt
    have HDP := Lib.hid hdp; have HR := Lib.hid hR; have IH := Lib.hid ih; have HH := Lib.hid h
    clear hdp hR ih h
    go_enter_defers Tryz.func126, Tryz.ntmps126
    go_upto_region 1 with fail
    have hBr := Box.made W 75 #[.int .i64 0, .string ⟨#[]⟩, .string ⟨#[]⟩, .slice none 0 0]
    have hbr : Below W.heap.size W (W.alloc (.cells #[.int .i64 0, .string ⟨#[]⟩, .string ⟨#[]⟩, .slice none 0 0] 75)) := by go_grown
    have hzr : (W.alloc (.cells #[.int .i64 0, .string ⟨#[]⟩, .string ⟨#[]⟩, .slice none 0 0] 75)).heap.size = W.heap.size + 1 := by simp
    generalize W.alloc (.cells #[.int .i64 0, .string ⟨#[]⟩, .string ⟨#[]⟩, .slice none 0 0] 75) = W1 at hBr hbr hzr ⊢
    have Hb := Lib.hid hbr; have HBr := Lib.hid hBr
    clear hbr hBr
    clear hzr
    go_wp2_with fail
    refine (HDP.out _ Hb.out).mono ?_
    rintro e W2 (⟨_, q, rfl, hq, hql, hL⟩ | ⟨h1, _⟩)
    rotate_left
    · omega
    have hr2 : Room b F W _ _ q W2 L (d + 1) := ⟨(HH.out.below Hb.out).trans hL, hL.grew.box_ HBr.out (by omega), hq, Nat.lt_of_lt_of_le HBr.out.lt hql, hbl⟩
    have htk := take_any hr2.start sLb
    have HR2 := Lib.hid hr2; have HTK := Lib.hid htk
    clear hr2 htk
    clear hL hq hql
    go_wp2_with fail
    refine HTK.out.mono ?_
    rintro e W3 ⟨z, L3, rfl, hT, hl3⟩
    have hr3 := HR2.out.go hl3
    clear hl3
    cases z with
    | true =>
      have hT := hT.yes
      have hk := IH.out _ _ _ hr3.start (by omega) (by omega)
      have HR3 := Lib.hid hr3; have HT := Lib.hid hT; have HK := Lib.hid hk
      clear hr3 hT hk
      go_wp2_with fail
      refine HK.out.mono ?_
      rintro e W4 (⟨x, L4, v, hx, rfl, ⟨cs, rfl, hX⟩, hl4⟩ | ⟨k, L4, d4, hx, rfl, hl4, h1, h2⟩)
      · have hr4 := HR3.out.go hl4
        obtain ⟨A, c, rfl⟩ := TyR.form hX
        have HR4 := Lib.hid hr4; have HX := Lib.hid hx; have HXR := Lib.hid hX; have HL4 := Lib.hid hl4
        clear hr4 hx hX hl4
        go_upto_region 4 with fail
        have hBb1 := ((Box.made W4 75 #[.int .i64 x.kind, .string x.of_, .string x.name, .slice A x.args.length c]).alloc (.cells #[.int .i64 3, .string ⟨#[]⟩, .string ⟨#[]⟩, .slice (some ⟨W4.heap.size, 0, none⟩) 1 1] 75))
        have hBb2 := (Box.made (W4.alloc (.cells #[.int .i64 x.kind, .string x.of_, .string x.name, .slice A x.args.length c] 75)) 75 #[.int .i64 3, .string ⟨#[]⟩, .string ⟨#[]⟩, .slice (some ⟨W4.heap.size, 0, none⟩) 1 1])
        rw [show (W4.alloc (.cells #[.int .i64 x.kind, .string x.of_, .string x.name, .slice A x.args.length c] 75)).heap.size = W4.heap.size + 1 by simp only [World.size_alloc]] at hBb2
        have hbb : Below W4.heap.size W4 ((W4.alloc (.cells #[.int .i64 x.kind, .string x.of_, .string x.name, .slice A x.args.length c] 75)).alloc (.cells #[.int .i64 3, .string ⟨#[]⟩, .string ⟨#[]⟩, .slice (some ⟨W4.heap.size, 0, none⟩) 1 1] 75)) := by go_grown
        have hzb : ((W4.alloc (.cells #[.int .i64 x.kind, .string x.of_, .string x.name, .slice A x.args.length c] 75)).alloc (.cells #[.int .i64 3, .string ⟨#[]⟩, .string ⟨#[]⟩, .slice (some ⟨W4.heap.size, 0, none⟩) 1 1] 75)).heap.size = W4.heap.size + 1 + 1 := by simp only [World.size_alloc]
        generalize (W4.alloc (.cells #[.int .i64 x.kind, .string x.of_, .string x.name, .slice A x.args.length c] 75)).alloc (.cells #[.int .i64 3, .string ⟨#[]⟩, .string ⟨#[]⟩, .slice (some ⟨W4.heap.size, 0, none⟩) 1 1] 75) = W5 at hBb1 hBb2 hbb hzb ⊢
        have hr5 := HR4.out.below hbb
        have h34 := HL4.out.grew.size
        have hb3 := HR3.out.look.lt
        have hw3 := HR3.out.look.grew.size
        have hX5 : TyR W5 (fresh W3.heap.size W5.heap.size) _ x := TyR.stays.wider (TyR.stays.later HXR.out hbb fresh_lt) (fresh_up (Nat.le_refl _) hbb.size)
        have hT5 : TyR W5 (fresh W3.heap.size W5.heap.size) [.int .i64 3, .string mt, .string mt, .slice (some ⟨W4.heap.size, 0, none⟩) 1 1] (.mk 3 mt mt [x]) := rty_list hBb1 hX5 ⟨h34, hBb1.lt⟩
        have hms := must_any hr5.start sRb
        have hrl := hBb2.lt
        have HR5 := Lib.hid hr5; have HT5 := Lib.hid hT5; have HMS := Lib.hid hms; have HB2 := Lib.hid hBb2
        clear hr5 hT5 hms hBb2
        clear hX5 hbb hBb1 HXR HL4
        go_wp2_with fail
        refine HMS.out.mono ?_
        rintro e W6 ⟨L6, (⟨rfl, hm, hl6⟩ | ⟨rfl, hm, hl6⟩)⟩
        · have hr6 := HR5.out.go hl6
          have hB6 := hl6.grew.box_ HB2.out (by omega)
          have hT6 := TyR.stays _ _ _ _ _ _ HT5.out (fun _ h => h) (hl6.grew.keeps (n := W3.heap.size) (m := W5.heap.size) hb3 (Nat.le_refl _))
          have hwr : ¬ (W3.heap.size ≤ W.heap.size) := by have := HR3.out.res.lt; omega
          have hne : W4.heap.size + 1 ≠ W.heap.size := by omega
          have hne2 : W.heap.size ≠ W4.heap.size + 1 := by omega
          have hx' : R = .ok (.mk 3 mt mt [x], L6) := by
            rw [← HR.out]; show prIf _ _ _ _ = _
            rw [prIf_yes HT.out, prThen_ok HX.out]
            rw [prThen_ok (prMust_yes hm)]; rfl
          have hrb := hr6.res
          have x0 := hB6.at_ 0 _ rfl
          have x1 := hB6.at_ 1 _ rfl
          have x2 := hB6.at_ 2 _ rfl
          have x3 := hB6.at_ 3 _ rfl
          have y0 := hrb.at_ 0 _ rfl
          have y1 := hrb.at_ 1 _ rfl
          have y2 := hrb.at_ 2 _ rfl
          have y3 := hrb.at_ 3 _ rfl
          have g0 := hrb.free 0
          have g1 := hrb.free 1
          have g2 := hrb.free 2
          have g3 := hrb.free 3
          have hsz := hl6.grew.size
          have HR6 := Lib.hid hr6; have HT6 := Lib.hid hT6; have HX6 := Lib.hid hx'
          clear hr6 hT6 hx'
          clear hl6 hB6 hrb hm
          go_wp2_with fail
          refine Room.kind_ (G := fresh W3.heap.size W5.heap.size) ((((HR6.out.set 0 _).set 1 _).set 2 _).set 3 _) h0 (by omega) rfl HX6.out (TyR.stays _ _ _ _ _ _ HT6.out (fun _ h => h) ?_) ?_
          · exact (((((Keeps.refl _ _).setCell (fun h => hwr h.1) _).setCell (fun h => hwr h.1) _).setCell (fun h => hwr h.1) _).setCell (fun h => hwr h.1) _)
          · simp only [size_set]
            exact fresh_up (by omega) (by omega)
        · have hr6 := HR5.out.go hl6
          have hx' : R = .error 4 := by
            rw [← HR.out]; show prIf _ _ _ _ = _
            rw [prIf_yes HT.out, prThen_ok HX.out, prThen_err (prMust_no hm)]
          have HR6 := Lib.hid hr6; have HX6 := Lib.hid hx'
          clear hr6 hx'
          clear hl6 hm
          go_wp2_with fail
          exact HR6.out.out HX6.out h0 (by omega) (by omega) (by omega)
      · have hr4 := HR3.out.go hl4
        have hx' : R = .error k := by rw [← HR.out]; show prIf _ _ _ _ = _; rw [prIf_yes HT.out, prThen_err hx]
        have HR4 := Lib.hid hr4; have HX := Lib.hid hx'
        clear hr4 hx'
        clear hl4 hx
        go_wp2_with fail
        exact HR4.out.out HX.out h0 (by omega) (by omega) (by omega)
    | false =>
      obtain ⟨hT, rfl⟩ := hT.no
      have hnx := next_any hr3.start hr3.look.lt
      have hw : R = prWord L3 := by rw [← HR.out]; show prIf _ _ _ _ = _; rw [prIf_no hT]
      have HR3 := Lib.hid hr3; have HNX := Lib.hid hnx; have HW := Lib.hid hw
      clear hr3 hnx hw
      clear hT
      go_wp2_with fail
      refine HNX.out.mono ?_
      rintro e W4 ⟨t, L4, rfl, hN, hk, htx, hl4⟩
      have hr4 := HR3.out.go hl4
      obtain ⟨kd, tx⟩ := t
      dsimp only at *
      go_upto_region 7 with fail
      have hBt := Box.made W4 182 #[.int .i64 kd, .string tx]
      have hbt : Below W4.heap.size W4 (W4.alloc (.cells #[.int .i64 kd, .string tx] 182)) := by go_grown
      have hzt : (W4.alloc (.cells #[.int .i64 kd, .string tx] 182)).heap.size = W4.heap.size + 1 := by simp
      generalize W4.alloc (.cells #[.int .i64 kd, .string tx] 182) = W5 at hBt hbt hzt ⊢
      have hr5 := hr4.below hbt
      have hrl := hBt.lt
      have hid := fun U => ident_any tx U htx
      obtain ⟨z1, hz1⟩ : ∃ z, (nameOk tx) = z := ⟨_, rfl⟩
      rw [hz1] at hid
      have Z1 := Lib.hid hz1; clear hz1
      have hrb := hr5.res
      have x0 := hBt.at_ 0 _ rfl
      have x1 := hBt.at_ 1 _ rfl
      have y0 := hrb.at_ 0 _ rfl
      have y1 := hrb.at_ 1 _ rfl
      have y2 := hrb.at_ 2 _ rfl
      have y3 := hrb.at_ 3 _ rfl
      have g0 := hrb.free 0
      have g1 := hrb.free 1
      have g2 := hrb.free 2
      have g3 := hrb.free 3
      have hne : W4.heap.size ≠ W.heap.size := by have := hr4.res.lt; omega
      have hne2 : W.heap.size ≠ W4.heap.size := fun h => hne h.symm
      have hnb : W4.heap.size ≠ b := by have := hl4.lt; omega
      have HN := Lib.hid hN; have HTX := Lib.hid htx; have HR5 := Lib.hid hr5; have HID := Lib.hid hid; have HB5 := Lib.hid hBt
      clear hN htx hr5 hid hBt
      clear hl4 hr4 hbt hzt hrb
      cases hq1 : (kd == 1) with
      | false =>
        have hx' : R = .error 4 := by
          rw [HW.out]
          rcases HN.out with ⟨rfl, _, _⟩ | rfl
          · rfl
          · rw [prWord_cons, if_pos (by simpa using hq1)]
        have HX6 := Lib.hid hx'
        clear hx'
        go_wp2_with (first | (go_at_call 71; (with_reducible refine (need_yes _ _).mono ?_); rintro e w' ⟨rfl, rfl⟩) | (go_at_call 71; (with_reducible refine (need_no _ _).mono ?_); rintro e w' ⟨rfl, rfl⟩))
        exact HR5.out.out HX6.out h0 (by omega) (by omega) (by omega)
      | true =>
        have hw2 : R = prWord (⟨kd, tx⟩ :: L4) := by
          rw [HW.out]
          rcases HN.out with ⟨_, h, _⟩ | rfl
          · injection h with h1 h2; rw [h1] at hq1; cases hq1
          · rfl
        rw [prWord_cons, if_neg (by simpa using hq1)] at hw2
        dsimp only at hw2
        rw [eqb_int, eqb_text] at hw2
        cases hq2 : (tx.toList == [105, 110, 116]) with
        | true =>
          rw [hq2, if_pos rfl] at hw2
          have HX6 := Lib.hid hw2
          clear hw2
          go_wp2_with (first | (go_at_call 71; (with_reducible refine (need_yes _ _).mono ?_); rintro e w' ⟨rfl, rfl⟩))
          refine Room.kind_ (G := none_) ((((HR5.out.set 0 _).set 1 _).set 2 _).set 3 _) h0 (by omega) rfl HX6.out (rty_plain _ _ rty_I64.1 mt_ok mt_ok) (fun k hk => hk.elim)
        | false =>
          rw [hq2, if_neg (by simp)] at hw2
          cases hq3 : (tx.toList == [116, 101, 120, 116]) with
          | true =>
            rw [hq3, if_pos rfl] at hw2
            have HX6 := Lib.hid hw2
            clear hw2
            go_wp2_with (first | (go_at_call 71; (with_reducible refine (need_yes _ _).mono ?_); rintro e w' ⟨rfl, rfl⟩))
            refine Room.kind_ (G := none_) ((((HR5.out.set 0 _).set 1 _).set 2 _).set 3 _) h0 (by omega) rfl HX6.out (rty_plain _ _ rty_I64.2.1 mt_ok mt_ok) (fun k hk => hk.elim)
          | false =>
            rw [hq3, if_neg (by simp), Z1.out] at hw2
            cases z1 with
            | false =>
              rw [if_pos rfl] at hw2
              have HX6 := Lib.hid hw2
              clear hw2
              go_wp2_with (first | (go_at_call 71; (with_reducible refine (need_yes _ _).mono ?_); rintro e w' ⟨rfl, rfl⟩) | (go_at_call 61; (with_reducible refine (HID.out _).mono ?_); rintro e W6 ⟨rfl, hb6⟩; have HR6 := Lib.hid (HR5.out.below hb6); clear hb6) | (go_at_call 71; (with_reducible refine (need_no _ _).mono ?_); rintro e w' ⟨rfl, rfl⟩))
              exact HR6.out.out HX6.out h0 (by omega) (by omega) (by omega)
            | true =>
              rw [if_neg (by simp)] at hw2
              have hr6' := fun U (hU : Below W5.heap.size W5 U) => HR5.out.below hU
              have hb6' := fun U (hU : Below W5.heap.size W5 U) => HB5.out.later hU HB5.out.lt
              have htk := fun U (hU : Below W5.heap.size W5 U) => take_any (HR5.out.below hU).start sDot
              have HX6 := Lib.hid hw2; have HTK := Lib.hid htk
              clear hw2 htk
              go_wp2_with (first | (go_at_call 71; (with_reducible refine (need_yes _ _).mono ?_); rintro e w' ⟨rfl, rfl⟩) | (go_at_call 61; (with_reducible refine (HID.out _).mono ?_); rintro e W6 ⟨rfl, hb6⟩; have HU6 := Lib.hid hb6; clear hb6))
              refine (HTK.out _ HU6.out).mono ?_
              rintro e W7 ⟨z2, L7, rfl, hT2, hl7⟩
              have hr6 := HR5.out.below HU6.out
              have hr7 := hr6.go hl7
              have hbx := hl7.grew.box_ (HB5.out.later HU6.out HB5.out.lt) hnb
              have hrb := hr7.res
              clear x0 x1 y0 y1 y2 y3 g0 g1 g2 g3
              have x0 := hbx.at_ 0 _ rfl
              have x1 := hbx.at_ 1 _ rfl
              have y0 := hrb.at_ 0 _ rfl
              have y1 := hrb.at_ 1 _ rfl
              have y2 := hrb.at_ 2 _ rfl
              have y3 := hrb.at_ 3 _ rfl
              have g0 := hrb.free 0
              have g1 := hrb.free 1
              have g2 := hrb.free 2
              have g3 := hrb.free 3
              have hw3 := hr7.look.grew.size
              cases z2 with
              | true =>
                have hT2 := hT2.yes
                have hnm := fun U (hU : Below W7.heap.size W7 U) => (name_any (hr7.below hU).start (hr7.below hU).look.lt).mono (R' := fun e W8 => (∃ n L8, prName L7 = .ok (n, L8) ∧ e = .returned (.string n) ∧ okS n ∧ Room b F W _ _ q W8 L8 (d + 1) ∧ Grew b U W8 (some b)) ∨ (∃ k L8 d8, prName L7 = .error k ∧ e = .panicked [faultV k] ∧ Room b F W _ _ q W8 L8 d8 ∧ d + 1 ≤ d8 ∧ d8 ≤ d + 2)) (fun e W8 hh => by
                  rcases hh with ⟨n, L8, v, h1, rfl, ⟨rfl, h2⟩, h3⟩ | ⟨k, L8, d8, h1, rfl, h3, h4, h5⟩
                  · exact .inl ⟨n, L8, h1, rfl, h2, (hr7.below hU).go h3, h3.grew⟩
                  · exact .inr ⟨k, L8, d8, h1, rfl, (hr7.below hU).go h3, h4, by omega⟩)
                have hx6 := HX6.out
                rw [prIf_yes hT2] at hx6
                have HR7 := Lib.hid hr7; have HT2 := Lib.hid hT2; have HNM := Lib.hid hnm; have HX7 := Lib.hid hx6; have HBX := Lib.hid hbx
                clear hr7 hT2 hnm hx6 hbx
                clear hr6 hl7 hrb HX6
                cases hpn : prName L7 with
                | error k =>
                  have hk := HX7.out
                  rw [prThen_err hpn] at hk
                  have hne2 := fun U hU => (HNM.out U hU).mono (R' := fun e W8 => e = .panicked [faultV k] ∧ ∃ L8 d8, Room b F W _ _ q W8 L8 d8 ∧ d + 1 ≤ d8 ∧ d8 ≤ d + 2) (fun e W8 hh => by
                    rcases hh with ⟨n, L8, h1, _⟩ | ⟨k', L8, d8, h1, rfl, h3, h4, h5⟩
                    · rw [hpn] at h1; cases h1
                    · rw [hpn] at h1; cases h1; exact ⟨rfl, L8, d8, h3, h4, h5⟩)
                  have HX8 := Lib.hid hk; have HNE := Lib.hid hne2
                  clear hk hne2
                  clear HNM hpn
                  go_wp2_with fail
                  refine wp_region_panics [{ target := .fn (.func 247) #[.pointer (some ⟨q, 0, none⟩)], args := #[] }] (fun c W8 => c = [faultV k] ∧ ∃ L8 d8, Room b F W 75 #[.int .i64 0, .string ⟨#[]⟩, .string ⟨#[]⟩, .slice none 0 0] q W8 L8 d8 ∧ d + 1 ≤ d8 ∧ d8 ≤ d + 2) ?_ ?_
                  · rintro c ⟨tm, df⟩ W8 rfl ⟨rfl, L8, d8, hr8, h81, h82⟩
                    exact hr8.out HX8.out h0 h81 h82 (by omega)
                  refine wp_region_held_drew (S := fun w' => w'.cell? ⟨W4.heap.size, 1, none⟩ = some (.string tx)) (by kernel_rfl) x1 (fun hHeld => ?_)
                  refine wpAnyH_take (i := 0) (v := ?_) rfl (by kernel_rfl) (by kernel_rfl) (by kernel_rfl) (fun _ _ _ h => h) (Or.inl ⟨by rfl, ?_⟩) (by assumption) ?_
                  rotate_left
                  · intro w hSw; (try dsimp only at hSw); go_simp; try with_reducible rfl
                  simp only [Act.put, List.setIfInBounds_toArray]
                  refine wpAnyH_take (i := 1) (v := ?_) rfl (by kernel_rfl) (by kernel_rfl) (by kernel_rfl) (fun _ _ _ h => h) (Or.inl ⟨by rfl, ?_⟩) (by assumption) ?_
                  rotate_left
                  · intro w hSw; (try dsimp only at hSw); go_simp; try with_reducible rfl
                  simp only [Act.put]
                  refine wpAnyH_take (i := 2) (v := ?_) rfl (by kernel_rfl) (by kernel_rfl) (by kernel_rfl) (fun _ _ _ h => h) (Or.inl ⟨by rfl, ?_⟩) (by assumption) ?_
                  rotate_left
                  · intro w hSw; (try dsimp only at hSw); go_simp; try with_reducible rfl
                  simp only [Act.put]
                  refine wpAnyH_ready (rs := [3]) (by kernel_rfl) (by simp) ?_
                  refine AllReadyH.cons rfl (fun K hK => ?_) AllReadyH.nil
                  go_simp
                  refine (HNE.out _ (by go_grown)).mono ?_
                  rintro e W8 ⟨rfl, hh⟩
                  exact ⟨rfl, rfl, hh⟩
                | ok a =>
                  obtain ⟨n, L8⟩ := a
                  have hk := HX7.out
                  rw [prThen_ok hpn] at hk
                  have hne2 := fun U hU => (HNM.out U hU).mono (R' := fun e W8 => e = .returned (.string n) ∧ okS n ∧ Room b F W _ _ q W8 L8 (d + 1) ∧ Grew b U W8 (some b)) (fun e W8 hh => by
                    rcases hh with ⟨n', L8', h1, rfl, h3⟩ | ⟨k', L8', d8, h1, _⟩
                    · rw [hpn] at h1; cases h1; exact ⟨rfl, h3⟩
                    · rw [hpn] at h1; cases h1)
                  have HX8 := Lib.hid hk; have HNE := Lib.hid hne2
                  clear hk hne2
                  clear HNM hpn
                  go_wp2_with fail
                  go_region_held3 (fun w' => w'.cell? ⟨W4.heap.size, 1, none⟩ = some (.string tx)) (first | exact x1 | exact ZZ.out | (simp [World.cell?_setCell_far, hne2, ZZ.out]; done))
                    (first | (go_at_call 124; refine (HNE.out _ (by go_grown)).mono ?_; rintro e W8 ⟨rfl, hn8, hr8, hg8⟩; have z1 := (hg8.box_ HBX.out hnb).at_ 1 _ rfl; have hrb := hr8.res; have y0 := hrb.at_ 0 _ rfl; have y1 := hrb.at_ 1 _ rfl; have y2 := hrb.at_ 2 _ rfl; have y3 := hrb.at_ 3 _ rfl; have g0 := hrb.free 0; have g1 := hrb.free 1; have g2 := hrb.free 2; have g3 := hrb.free 3; have HR8 := Lib.hid hr8; have HN8 := Lib.hid hn8; have ZZ := Lib.hid z1; clear hr8 hrb hg8 hn8 z1))
                  all_goals
                    go_wp2_with fail
                    refine Room.kind_ (G := none_) ((((HR8.out.set 0 _).set 1 _).set 2 _).set 3 _) h0 (by omega) rfl HX8.out (rty_plain _ _ rty_I64.2.2.2 HTX.out HN8.out) (fun k hk => hk.elim)
              | false =>
                obtain ⟨hT2, rfl⟩ := hT2.no
                have hx6 := HX6.out
                rw [prIf_no hT2] at hx6
                have HR7 := Lib.hid hr7; have HX7 := Lib.hid hx6
                clear hr7 hx6
                clear hr6 hl7 hrb hbx HX6
                go_wp2_with fail
                refine Room.kind_ (G := none_) ((((HR7.out.set 0 _).set 1 _).set 2 _).set 3 _) h0 (by omega) rfl HX7.out (rty_plain _ _ rty_I64.2.2.2 mt_ok HTX.out) (fun k hk => hk.elim)

end Go.Proofs.YtjaladhdnbhliaaGreatDoor

/- A function that is next: (*tree.reader).fun. -/
namespace Go.Proofs.YtjaladhdnbhliaaGreatDoor
open Go.RowKit Go.Shelf

/-- Where a function stands: the reader, its result's block, a variable's block. -/
structure DuoT (t : TypeId) (b : Nat) (F : Foot) (W : World) (q : Nat) (rc xc : Array Value) (W' : World) (L : List Token) (d : Int) : Prop where
  look : Look b F W W' L d
  res : Box W' W.heap.size t rc
  own : Box W' q t xc
  far : W.heap.size < q
  lt : b < W.heap.size
section
variable {t : TypeId} {b : Nat} {F : Foot} {W : World} {q : Nat} {rc xc : Array Value} {W' W2 : World} {L L2 : List Token} {d d2 : Int}
theorem DuoT.go (h : DuoT t b F W q rc xc W' L d) (k : Look b F W' W2 L2 d2) : DuoT t b F W q rc xc W2 L2 d2 :=
  ⟨h.look.trans k, k.grew.box_ h.res (by have := h.lt; omega), k.grew.box_ h.own (by have := h.lt; have := h.far; omega), h.far, h.lt⟩
theorem DuoT.below (h : DuoT t b F W q rc xc W' L d) (hb : Below W'.heap.size W' W2) : DuoT t b F W q rc xc W2 L d :=
  ⟨h.look.below hb, h.res.later hb h.res.lt, h.own.later hb h.own.lt, h.far, h.lt⟩
theorem DuoT.setR (h : DuoT t b F W q rc xc W' L d) (i : Nat) (u : Value) : DuoT t b F W q (rc.setIfInBounds i u) xc (W'.setCell ⟨W.heap.size, i, none⟩ u) L d :=
  ⟨h.look.set (Nat.le_refl _) h.lt u, h.res.put i u, h.own.far (by have := h.far; show q ≠ W.heap.size; omega) u, h.far, h.lt⟩
theorem DuoT.setX (h : DuoT t b F W q rc xc W' L d) (i : Nat) (u : Value) : DuoT t b F W q rc (xc.setIfInBounds i u) (W'.setCell ⟨q, i, none⟩ u) L d :=
  ⟨h.look.set (Nat.le_of_lt h.far) h.lt u, h.res.far (by have := h.far; show W.heap.size ≠ q; omega) u, h.own.put i u, h.far, h.lt⟩
theorem DuoT.grown (h : DuoT t b F W q rc xc W' L d) {base : Nat} {row : Option Nat} (hg : Grew base W' W2 row) (hq : q < base) : DuoT t b F W q rc xc W2 L d :=
  ⟨h.look.then_ ⟨hg.os, hg.tape, hg.output, hg.size, hg.block, fun k hk => by have := hg.low k hk; have := h.far; omega⟩ h.lt, hg.box h.res (by have := h.far; omega), hg.box h.own hq, h.far, h.lt⟩
end

theorem Owns.setFar {α : Type} {R : CR α} {sz base : Nat} {e : TypeId} {F : Foot} {w : World} {v : Value} {l : List α} (hR : Stays R) (h : Owns R sz e base w F v l) {p : Addr} (hF : ∀ k, F k → k ≠ p.block) (hrow : ∀ k, v.ownBlock = some k → k ≠ p.block) (u : Value) : Owns R sz e base (w.setCell p u) F v l :=
  h.kept hR (by rw [size_set]; exact Nat.le_refl _) fun k _ hk => Below.heap_setCell _ _ _ _ (hk.elim (hF k) (hrow k))
theorem rfield_cells {w : World} {F : Foot} {cs : List Value} {x : Field} (h : FieldR w F cs x) : ∀ u ∈ cs, u.oneCell' = true := by
  obtain ⟨tc, rfl, _, ht⟩ := h
  obtain ⟨A, c, rfl⟩ := TyR.form ht
  intro u hu
  simp only [List.mem_cons, List.not_mem_nil, or_false] at hu
  rcases hu with rfl | rfl | rfl | rfl | rfl <;> rfl

set_option maxRecDepth 100000 in
set_option maxHeartbeats 8000000 in
theorem rfun_any {b : Nat} {F : Foot} (W : World) (L : List Token) (h : Look b F W W L 0) (hl : L.length ≤ 200) :
    Calls Tryz.prog 127 #[.pointer (some ⟨b, 0, none⟩)] W (Gave (AggV FuncR) b F W W 0 (prFun L)) := by
  obtain ⟨R, hR⟩ : ∃ R, prFun L = R := ⟨_, rfl⟩
  rw [hR]
  have hbl := h.lt
  have hnm := fun U (hU : Below W.heap.size W U) => name_any (h.below hU).start (h.below hU).lt
  have HR := Lib.hid hR; have HH := Lib.hid h; have HNM := Lib.hid hnm
  clear hR h hnm
  go_enter Tryz.func127, Tryz.ntmps127
  go_upto_region 1 with fail
  have hBr := Box.made W 83 #[.string ⟨#[]⟩, .string ⟨#[]⟩, .slice none 0 0, .int .i64 0, .string ⟨#[]⟩, .string ⟨#[]⟩, .slice none 0 0, .int .i64 0, .int .i64 0, .string ⟨#[]⟩, .string ⟨#[]⟩, .slice none 0 0]
  have hbr : Below W.heap.size W (W.alloc (.cells #[.string ⟨#[]⟩, .string ⟨#[]⟩, .slice none 0 0, .int .i64 0, .string ⟨#[]⟩, .string ⟨#[]⟩, .slice none 0 0, .int .i64 0, .int .i64 0, .string ⟨#[]⟩, .string ⟨#[]⟩, .slice none 0 0] 83)) := by go_grown
  have hzr : (W.alloc (.cells #[.string ⟨#[]⟩, .string ⟨#[]⟩, .slice none 0 0, .int .i64 0, .string ⟨#[]⟩, .string ⟨#[]⟩, .slice none 0 0, .int .i64 0, .int .i64 0, .string ⟨#[]⟩, .string ⟨#[]⟩, .slice none 0 0] 83)).heap.size = W.heap.size + 1 := by simp
  generalize W.alloc (.cells #[.string ⟨#[]⟩, .string ⟨#[]⟩, .slice none 0 0, .int .i64 0, .string ⟨#[]⟩, .string ⟨#[]⟩, .slice none 0 0, .int .i64 0, .int .i64 0, .string ⟨#[]⟩, .string ⟨#[]⟩, .slice none 0 0] 83) = W1 at hBr hbr hzr ⊢
  have hl1 := HH.out.below hbr
  have hrl := hBr.lt
  have HL1 := Lib.hid hl1; have HB1 := Lib.hid hBr; have Hbr := Lib.hid hbr
  clear hl1 hBr hbr
  clear hzr
  go_wp2_with fail
  refine (HNM.out _ Hbr.out).mono ?_
  rintro e W2 (⟨n, L2, v, hn, rfl, ⟨rfl, hno⟩, hl2⟩ | ⟨k, L2, d2, hn, rfl, hl2, h1, h2⟩)
  rotate_left
  · have hx2 : R = .error k := by rw [← HR.out, prFun_eq]; exact prThen_err hn
    have hl2' := HL1.out.trans hl2
    have HX2 := Lib.hid hx2; have HL2 := Lib.hid hl2'
    clear hx2 hl2'
    clear hl2 hn
    go_wp2_with fail
    exact ⟨rfl, .inr ⟨k, L2, d2, HX2.out, rfl, HL2.out, h1, h2⟩⟩
  have hx2 : R = prThen prVar (prTail n) L2 := by rw [← HR.out, prFun_eq]; exact prThen_ok hn
  have hs2 := short_name _ _ _ hn
  have hl2' := HL1.out.trans hl2
  have hb2 := hl2.grew.box_ HB1.out (by omega)
  have hw2 := hl2.size
  have HX2 := Lib.hid hx2; have HL2 := Lib.hid hl2'; have HB2 := Lib.hid hb2; have HNO := Lib.hid hno
  clear hx2 hl2' hb2 hno
  clear hl2 hn HB1 HL1 HNM
  go_upto_region 2 with fail
  have hBf := Box.made W2 83 #[.string n, .string ⟨#[]⟩, .slice none 0 0, .int .i64 0, .string ⟨#[]⟩, .string ⟨#[]⟩, .slice none 0 0, .int .i64 0, .int .i64 0, .string ⟨#[]⟩, .string ⟨#[]⟩, .slice none 0 0]
  have hbf : Below W2.heap.size W2 (W2.alloc (.cells #[.string n, .string ⟨#[]⟩, .slice none 0 0, .int .i64 0, .string ⟨#[]⟩, .string ⟨#[]⟩, .slice none 0 0, .int .i64 0, .int .i64 0, .string ⟨#[]⟩, .string ⟨#[]⟩, .slice none 0 0] 83)) := by go_grown
  have hzf : (W2.alloc (.cells #[.string n, .string ⟨#[]⟩, .slice none 0 0, .int .i64 0, .string ⟨#[]⟩, .string ⟨#[]⟩, .slice none 0 0, .int .i64 0, .int .i64 0, .string ⟨#[]⟩, .string ⟨#[]⟩, .slice none 0 0] 83)).heap.size = W2.heap.size + 1 := by simp
  generalize W2.alloc (.cells #[.string n, .string ⟨#[]⟩, .slice none 0 0, .int .i64 0, .string ⟨#[]⟩, .string ⟨#[]⟩, .slice none 0 0, .int .i64 0, .int .i64 0, .string ⟨#[]⟩, .string ⟨#[]⟩, .slice none 0 0] 83) = W3 at hBf hbf hzf ⊢
  have hd3 : DuoT 83 b F W W2.heap.size #[.string ⟨#[]⟩, .string ⟨#[]⟩, .slice none 0 0, .int .i64 0, .string ⟨#[]⟩, .string ⟨#[]⟩, .slice none 0 0, .int .i64 0, .int .i64 0, .string ⟨#[]⟩, .string ⟨#[]⟩, .slice none 0 0] #[.string n, .string ⟨#[]⟩, .slice none 0 0, .int .i64 0, .string ⟨#[]⟩, .string ⟨#[]⟩, .slice none 0 0, .int .i64 0, .int .i64 0, .string ⟨#[]⟩, .string ⟨#[]⟩, .slice none 0 0] W3 L2 0 :=
    ⟨HL2.out.below hbf, HB2.out.later hbf HB2.out.lt, hBf, by omega, hbl⟩
  obtain ⟨q, hqe⟩ : ∃ q, W2.heap.size = q := ⟨_, rfl⟩
  rw [hqe] at hd3 ⊢
  have htk := take_any hd3.look.start sLt
  have HD3 := Lib.hid hd3; have HTK := Lib.hid htk
  clear hd3 htk
  clear hbf hzf hBf HB2 HL2 hw2 hqe
  go_wp2_with fail
  refine HTK.out.mono ?_
  rintro e W4 ⟨z, L4, rfl, hT, hl4⟩
  have hd4 := HD3.out.go hl4
  have HD4 := Lib.hid hd4
  clear hd4
  clear hl4 HD3
  go_upto_if 9 with (fail)
  go_cut [] (fun wc => ∃ (L' : List Token) (v : ByteArray), L'.length ≤ 200 ∧ okS v ∧ Aside (R = prTail n v L') ∧ Aside (DuoT 83 b F W q #[.string ⟨#[]⟩, .string ⟨#[]⟩, .slice none 0 0, .int .i64 0, .string ⟨#[]⟩, .string ⟨#[]⟩, .slice none 0 0, .int .i64 0, .int .i64 0, .string ⟨#[]⟩, .string ⟨#[]⟩, .slice none 0 0] #[.string n, .string v, .slice none 0 0, .int .i64 0, .string ⟨#[]⟩, .string ⟨#[]⟩, .slice none 0 0, .int .i64 0, .int .i64 0, .string ⟨#[]⟩, .string ⟨#[]⟩, .slice none 0 0] wc L' 0))
  case first =>
    cases z with
    | false =>
      obtain ⟨hT, rfl⟩ := hT.no
      have hx4 : R = prTail n mt L4 := HX2.out.trans (prThen_ok (prIf_no hT))
      have HX4 := Lib.hid hx4
      clear hx4
      clear hT
      go_wp2_with fail
      go_meet
      exact ⟨L4, mt, by omega, mt_ok, aside HX4.out, aside HD4.out⟩
    | true =>
      have hT := hT.yes
      have ht4 := take_len hT
      have hnm := name_any HD4.out.look.start HD4.out.look.lt
      have HT := Lib.hid hT; have HNM := Lib.hid hnm
      clear hT hnm
      go_wp2_with fail
      refine HNM.out.mono ?_
      rintro e W5 (⟨v, L5, _, hn, rfl, ⟨rfl, hvo⟩, hl5⟩ | ⟨k, L5, d5, hn, rfl, hl5, h1, h2⟩)
      · have hd5 := HD4.out.go hl5
        have hs5 := short_name _ _ _ hn
        have ho5 := hd5.own
        have x1 := ho5.at_ 1 _ rfl
        have g1 := ho5.free 1
        have HD5 := Lib.hid hd5
        clear hd5
        clear hl5 ho5
        go_upto_region 4 with fail
        have hd6 := HD5.out.setX 1 (.string v)
        simp only [List.setIfInBounds_toArray, List.set_cons_zero, List.set_cons_succ] at hd6
        generalize W5.setCell ⟨q, 1, none⟩ (.string v) = W6 at hd6 ⊢
        have hms := must_any hd6.look.start sGt
        have HD6 := Lib.hid hd6; have HMS := Lib.hid hms; have HN := Lib.hid hn; have HVO := Lib.hid hvo
        clear hd6 hms hn hvo
        clear x1 g1
        go_wp2_with fail
        refine HMS.out.mono ?_
        rintro e W7 ⟨L7, (⟨rfl, hm7, hl7⟩ | ⟨rfl, hm7, hl7⟩)⟩
        · have hx7 : R = prTail n v L7 := by
            refine HX2.out.trans (prThen_ok ?_)
            show prIf _ _ _ _ = _
            rw [prIf_yes HT.out, prThen_ok HN.out, prThen_ok (prMust_yes hm7)]; rfl
          have ht7 := take_len hm7
          have hd7 := HD6.out.go hl7
          have HX7 := Lib.hid hx7; have HD7 := Lib.hid hd7
          clear hx7 hd7
          clear hl7 hm7
          go_wp2_with fail
          go_meet
          exact ⟨L7, v, by omega, HVO.out, aside HX7.out, aside HD7.out⟩
        · have hx7 : R = .error 4 := by
            refine HX2.out.trans (prThen_err ?_)
            show prIf _ _ _ _ = _
            rw [prIf_yes HT.out, prThen_ok HN.out, prThen_err (prMust_no hm7)]
          have hd7 := HD6.out.go hl7
          have HX7 := Lib.hid hx7; have HD7 := Lib.hid hd7
          clear hx7 hd7
          clear hl7 hm7
          go_wp2_with fail
          exact ⟨rfl, .inr ⟨4, L7, 0, HX7.out, rfl, HD7.out.look, Int.le_refl _, by omega⟩⟩
      · have hx5 : R = .error k := by
          refine HX2.out.trans (prThen_err ?_)
          show prIf _ _ _ _ = _
          rw [prIf_yes HT.out, prThen_err hn]
        have hd5 := HD4.out.go hl5
        have HX5 := Lib.hid hx5; have HD5 := Lib.hid hd5
        clear hx5 hd5
        clear hl5 hn
        go_wp2_with fail
        exact ⟨rfl, .inr ⟨k, L5, d5, HX5.out, rfl, HD5.out.look, h1, h2⟩⟩
  case rest =>
  obtain ⟨L5, v, hl5, hvo, hx5, hd5⟩ := hcut
  obtain ⟨W5, rfl⟩ : ∃ W, W = wc := ⟨_, rfl⟩
  have hms := must_any hd5.out.look.start sLp
  have HMS := Lib.hid hms; have HVO := Lib.hid hvo
  clear hms hvo
  clear HD4 HTK HX2
  go_wp2_with fail
  refine HMS.out.mono ?_
  rintro e W6 ⟨L6, (⟨rfl, hm6, hl6⟩ | ⟨rfl, hm6, hl6⟩)⟩
  rotate_left
  · have hx6 : R = .error 4 := hx5.out.trans (prThen_err (prMust_no hm6))
    have hd6 := hd5.out.go hl6
    have HX6 := Lib.hid hx6; have HD6 := Lib.hid hd6
    clear hx6 hd6
    clear hl6 hm6
    go_wp2_with fail
    exact ⟨rfl, .inr ⟨4, L6, 0, HX6.out, rfl, HD6.out.look, Int.le_refl _, by omega⟩⟩
  have hx6 : R = prThen (fun l => prPars (l.length + 1) [] l) (prRest n v) L6 := hx5.out.trans (prThen_ok (prMust_yes hm6))
  have hd6 := hd5.out.go hl6
  have ht6 := take_len hm6
  obtain ⟨M, hM⟩ : ∃ M, prPars (L6.length + 1) [] L6 = M := ⟨_, rfl⟩
  have hme : ∀ k, M = .error k → R = .error k := fun k hk => hx6.trans (prThen_err (hM.trans hk))
  have hmo : ∀ ps L7, M = .ok (ps, L7) → R = prRest n v ps L7 := fun ps L7 hk => hx6.trans (prThen_ok (hM.trans hk))
  have hq6 := hd6.own.lt
  obtain ⟨B, hB⟩ : ∃ B, W6.heap.size = B := ⟨_, rfl⟩
  have HME := Lib.hid hme; have HMO := Lib.hid hmo; have HM := Lib.hid hM; have HD6 := Lib.hid hd6; have HBE := Lib.hid hB
  clear hme hmo hM hd6 hB
  clear hl6 hm6 hx5 hd5 hx6 HMS
  go_wp2_with fail
  go_loopg [] L6.length (fun gg wr => ∃ (m c : Nat) (A : Option Addr) (ps : List Field) (L7 : List Token) (G : Foot), L7.length ≤ gg ∧ L7.length ≤ m ∧ L7.length ≤ 200 ∧ ps.length + L7.length ≤ 201 ∧ Aside (M = prPars (m + 1) ps L7) ∧
    Aside (DuoT 83 b F W q #[.string ⟨#[]⟩, .string ⟨#[]⟩, .slice none 0 0, .int .i64 0, .string ⟨#[]⟩, .string ⟨#[]⟩, .slice none 0 0, .int .i64 0, .int .i64 0, .string ⟨#[]⟩, .string ⟨#[]⟩, .slice none 0 0] #[.string n, .string v, .slice A ps.length c, .int .i64 0, .string ⟨#[]⟩, .string ⟨#[]⟩, .slice none 0 0, .int .i64 0, .int .i64 0, .string ⟨#[]⟩, .string ⟨#[]⟩, .slice none 0 0] wr L7 0) ∧
    Aside (Owns FieldR 5 78 B wr G (.slice A ps.length c) ps) ∧ Aside (∀ k, G k → B ≤ k) ∧ Aside (B ≤ wr.heap.size))
  case atStart => exact ⟨L6.length, 0, none, [], L6, none_, Nat.le_refl _, Nat.le_refl _, by omega, by simp; omega, aside HM.out.symm, aside HD6.out, aside Owns.nil_, aside (fun k hk => hk.elim), aside (by have := HBE.out; omega)⟩
  case round =>
    clear HD6 HM
    obtain ⟨m, c, A, ps, L7, G, hg, hm, h200, h201, hM7, hd7, hO7, hG7, hB7⟩ := hrel
    obtain ⟨W7, rfl⟩ : ∃ W, W = wr := ⟨_, rfl⟩
    have hB7 := hB7.out
    have htk := take_any hd7.out.look.start sRp
    have HTK := Lib.hid htk
    clear htk
    go_wp2_with fail
    refine HTK.out.mono ?_
    rintro e W8 ⟨z, L8, rfl, hT, hl8⟩
    have hd8 := hd7.out.go hl8
    have hO8 := hO7.out.read FieldR.stays hl8.grew (by have := HBE.out; have := hd7.out.lt; have := hd7.out.far; omega) hG7.out
    have hB8 := hl8.size
    cases z with
    | true =>
      have hx8 : R = prRest n v ps L8 := HMO.out _ _ (hM7.out.trans (pars_stop hT.yes))
      have ht8 := take_len hT.yes
      have hms := must_any hd8.look.start sColon
      have HX8 := Lib.hid hx8; have HD8 := Lib.hid hd8; have HO8 := Lib.hid hO8; have HG8 := Lib.hid hG7; have HMS := Lib.hid hms
      clear hx8 hd8 hO8 hG7 hms
      clear hl8 hd7 hO7 hM7 hT HTK
      go_wp2_with fail
      refine HMS.out.mono ?_
      rintro e W9 ⟨L9, (⟨rfl, hm9, hl9⟩ | ⟨rfl, hm9, hl9⟩)⟩
      rotate_left
      · have hx9 : R = .error 4 := HX8.out.trans (prThen_err (prMust_no hm9))
        have hd9 := HD8.out.go hl9
        have HX9 := Lib.hid hx9; have HD9 := Lib.hid hd9
        clear hx9 hd9
        clear hl9 hm9
        go_wp2_with fail
        exact ⟨rfl, .inr ⟨4, L9, 0, HX9.out, rfl, HD9.out.look, Int.le_refl _, by omega⟩⟩
      have hx9 := HX8.out.trans (prThen_ok (prMust_yes hm9))
      have hd9 := HD8.out.go hl9
      have hO9 := HO8.out.read FieldR.stays hl9.grew (by have := HBE.out; have := HD8.out.lt; have := HD8.out.far; omega) HG8.out
      have ht9 := take_len hm9
      have hB9 := hl9.size
      have hkd := rkind_any 40 W9 L9 0 hd9.look.start (by omega) (by omega)
      have HX9 := Lib.hid hx9; have HD9 := Lib.hid hd9; have HO9 := Lib.hid hO9; have HKD := Lib.hid hkd
      clear hx9 hd9 hO9 hkd
      clear hl9 hm9 HMS HD8 HO8 HX8
      go_wp2_with fail
      refine HKD.out.mono ?_
      rintro e W10 (⟨ty, L10, _, hn, rfl, ⟨cs, rfl, hY⟩, hl10⟩ | ⟨k, L10, d10, hn, rfl, hl10, h1, h2⟩)
      rotate_left
      · have hx10 : R = .error k := HX9.out.trans (prThen_err hn)
        have hd10 := HD9.out.go hl10
        have HX10 := Lib.hid hx10; have HD10 := Lib.hid hd10
        clear hx10 hd10
        clear hl10 hn
        go_wp2_with fail
        exact ⟨rfl, .inr ⟨k, L10, d10, HX10.out, rfl, HD10.out.look, h1, h2⟩⟩
      have hx10 := HX9.out.trans (prThen_ok hn)
      have hd10 := HD9.out.go hl10
      have hO10 := HO9.out.read FieldR.stays hl10.grew (by have := HBE.out; have := HD9.out.lt; have := HD9.out.far; omega) HG8.out
      have hs10 := short_kind 40 _ _ _ hn
      have hB10 := hl10.size
      obtain ⟨A2, c2, rfl⟩ := TyR.form hY
      have ho10 := hd10.own
      have hBE := HBE.out
      have x3 := ho10.at_ 3 _ rfl
      have x4 := ho10.at_ 4 _ rfl
      have x5 := ho10.at_ 5 _ rfl
      have x6 := ho10.at_ 6 _ rfl
      have g3 := ho10.free 3
      have g4 := ho10.free 4
      have g5 := ho10.free 5
      have g6 := ho10.free 6
      have HX10 := Lib.hid hx10; have HD10 := Lib.hid hd10; have HO10 := Lib.hid hO10; have HYR := Lib.hid hY
      clear hx10 hd10 hO10 hY
      clear hl10 hn HKD HD9 HO9 HX9 ho10
      go_upto_region 15 with fail
      have hd11 := (((HD10.out.setX 3 (.int .i64 ty.kind)).setX 4 (.string ty.of_)).setX 5 (.string ty.name)).setX 6 (.slice A2 ty.args.length c2)
      simp only [List.setIfInBounds_toArray, List.set_cons_zero, List.set_cons_succ] at hd11
      have hO11 := (((HO10.out.set FieldR.stays (p := ⟨q, 3, none⟩) (by show q < B; omega) (fun k hk => by have := HG8.out k hk; show k ≠ q; omega) (.int .i64 ty.kind)).set FieldR.stays (p := ⟨q, 4, none⟩) (by show q < B; omega) (fun k hk => by have := HG8.out k hk; show k ≠ q; omega) (.string ty.of_)).set FieldR.stays (p := ⟨q, 5, none⟩) (by show q < B; omega) (fun k hk => by have := HG8.out k hk; show k ≠ q; omega) (.string ty.name)).set FieldR.stays (p := ⟨q, 6, none⟩) (by show q < B; omega) (fun k hk => by have := HG8.out k hk; show k ≠ q; omega) (.slice A2 ty.args.length c2)
      have hqk : ¬ fresh W9.heap.size W10.heap.size q := fun h => by have := h.1; omega
      have hY11 := TyR.stays _ _ _ _ _ _ HYR.out (fun _ h => h) (((((Keeps.refl _ _).setCell (q := ⟨q, 3, none⟩) hqk (.int .i64 ty.kind)).setCell (q := ⟨q, 4, none⟩) hqk (.string ty.of_)).setCell (q := ⟨q, 5, none⟩) hqk (.string ty.name)).setCell (q := ⟨q, 6, none⟩) hqk (.slice A2 ty.args.length c2))
      have hB11 : ((((W10.setCell ⟨q, 3, none⟩ (.int .i64 ty.kind)).setCell ⟨q, 4, none⟩ (.string ty.of_)).setCell ⟨q, 5, none⟩ (.string ty.name)).setCell ⟨q, 6, none⟩ (.slice A2 ty.args.length c2)).heap.size = W10.heap.size := by simp only [size_set]
      generalize (((W10.setCell ⟨q, 3, none⟩ (.int .i64 ty.kind)).setCell ⟨q, 4, none⟩ (.string ty.of_)).setCell ⟨q, 5, none⟩ (.string ty.name)).setCell ⟨q, 6, none⟩ (.slice A2 ty.args.length c2) = W11 at hd11 hO11 hY11 hB11 ⊢
      have hms := must_any hd11.look.start sEq
      have HD11 := Lib.hid hd11; have HO11 := Lib.hid hO11; have HY11 := Lib.hid hY11; have HMS := Lib.hid hms; have HS11 := Lib.hid hB11
      clear hd11 hO11 hY11 hms hB11
      clear x3 x4 x5 x6 g3 g4 g5 g6 HYR HO10 HD10
      go_wp2_with fail
      refine HMS.out.mono ?_
      rintro e W12 ⟨L12, (⟨rfl, hm12, hl12⟩ | ⟨rfl, hm12, hl12⟩)⟩
      rotate_left
      · have hx12 : R = .error 4 := HX10.out.trans (prThen_err (prMust_no hm12))
        have hd12 := HD11.out.go hl12
        have HX12 := Lib.hid hx12; have HD12 := Lib.hid hd12
        clear hx12 hd12
        clear hl12 hm12
        go_wp2_with fail
        exact ⟨rfl, .inr ⟨4, L12, 0, HX12.out, rfl, HD12.out.look, Int.le_refl _, by omega⟩⟩
      have hx12 := HX10.out.trans (prThen_ok (prMust_yes hm12))
      have hd12 := HD11.out.go hl12
      have hbB : b < B := by have := HD11.out.lt; have := HD11.out.far; omega
      have hO12 := HO11.out.read FieldR.stays hl12.grew hbB HG8.out
      have hY12 := TyR.stays _ _ _ _ _ _ HY11.out (fun _ h => h) (hl12.grew.keeps (n := W9.heap.size) (m := W10.heap.size) (by omega) (by have := HS11.out; omega))
      have ht12 := take_len hm12
      have hB12 := hl12.size
      have hex := rexpr_any 40 W12 L12 0 hd12.look.start (by omega) (by omega) (by omega)
      have HX12 := Lib.hid hx12; have HD12 := Lib.hid hd12; have HO12 := Lib.hid hO12; have HY12 := Lib.hid hY12; have HEX := Lib.hid hex
      clear hx12 hd12 hO12 hY12 hex
      clear hl12 hm12 HMS HD11 HO11 HX10 HY11
      go_wp2_with fail
      refine HEX.out.mono ?_
      rintro e W13 (⟨ex, L13, _, hn, rfl, ⟨cs, rfl, hZ⟩, hl13⟩ | ⟨k, L13, d13, hn, rfl, hl13, h1, h2⟩)
      rotate_left
      · have hx13 : R = .error k := HX12.out.trans (prThen_err hn)
        have hd13 := HD12.out.go hl13
        have HX13 := Lib.hid hx13; have HD13 := Lib.hid hd13
        clear hx13 hd13
        clear hl13 hn
        go_wp2_with fail
        exact ⟨rfl, .inr ⟨k, L13, d13, HX13.out, rfl, HD13.out.look, h1, h2⟩⟩
      have hx13 : R = .ok (⟨n, v, ps, ty, ex⟩, L13) := HX12.out.trans (prThen_ok hn)
      have hd13 := HD12.out.go hl13
      have hO13 := HO12.out.read FieldR.stays hl13.grew hbB HG8.out
      have hY13 := TyR.stays _ _ _ _ _ _ HY12.out (fun _ h => h) (hl13.grew.keeps (n := W9.heap.size) (m := W10.heap.size) (by omega) (by have := HS11.out; omega))
      have hB13 := hl13.size
      obtain ⟨A3, c3, rfl⟩ := ExR.form hZ
      have ho13 := hd13.own
      have hr13 := hd13.res
      have hS11 := HS11.out
      have hps : SliceOf FieldR 5 80 W13 (fresh B W13.heap.size) (.slice A ps.length c) ps := hO13.slice FieldR.stays (fun k hk => ⟨HG8.out k hk, (hO13.foot hk).1⟩) (fun k h1 h2 => ⟨h1, h2⟩) (by omega) (by omega)
      have hrB : W.heap.size < B := by have := HD12.out.far; omega
      have x7 := ho13.at_ 7 _ rfl
      have x8 := ho13.at_ 8 _ rfl
      have x9 := ho13.at_ 9 _ rfl
      have x10 := ho13.at_ 10 _ rfl
      have x11 := ho13.at_ 11 _ rfl
      have g7 := ho13.free 7
      have g8 := ho13.free 8
      have g9 := ho13.free 9
      have g10 := ho13.free 10
      have g11 := ho13.free 11
      have HX13 := Lib.hid hx13; have HD13 := Lib.hid hd13; have HPS := Lib.hid hps; have HY13 := Lib.hid hY13; have HZ13 := Lib.hid hZ
      clear hx13 hd13 hps hY13 hZ
      clear hl13 hn HEX HD12 HO12 HX12 HY12 ho13 hr13 hO13
      go_upto_region 17 with fail
      have hd14 := ((((HD13.out.setX 7 (.int .i64 ex.kind)).setX 8 (.int .i64 ex.n)).setX 9 (.string ex.of_)).setX 10 (.string ex.s)).setX 11 (.slice A3 ex.args.length c3)
      simp only [List.setIfInBounds_toArray, List.set_cons_zero, List.set_cons_succ] at hd14
      have hnq : ∀ m, B ≤ m → ¬ fresh m W13.heap.size q := fun m hm h => by have := h.1; omega
      have hk14 : ∀ m, B ≤ m → Keeps (fresh m W13.heap.size) W13 (((((W13.setCell ⟨q, 7, none⟩ (.int .i64 ex.kind)).setCell ⟨q, 8, none⟩ (.int .i64 ex.n)).setCell ⟨q, 9, none⟩ (.string ex.of_)).setCell ⟨q, 10, none⟩ (.string ex.s)).setCell ⟨q, 11, none⟩ (.slice A3 ex.args.length c3)) := fun m hm =>
        (((((Keeps.refl _ _).setCell (hnq m hm) _).setCell (hnq m hm) _).setCell (hnq m hm) _).setCell (hnq m hm) _).setCell (hnq m hm) _
      have hB14 : (((((W13.setCell ⟨q, 7, none⟩ (.int .i64 ex.kind)).setCell ⟨q, 8, none⟩ (.int .i64 ex.n)).setCell ⟨q, 9, none⟩ (.string ex.of_)).setCell ⟨q, 10, none⟩ (.string ex.s)).setCell ⟨q, 11, none⟩ (.slice A3 ex.args.length c3)).heap.size = W13.heap.size := by simp only [size_set]
      generalize ((((W13.setCell ⟨q, 7, none⟩ (.int .i64 ex.kind)).setCell ⟨q, 8, none⟩ (.int .i64 ex.n)).setCell ⟨q, 9, none⟩ (.string ex.of_)).setCell ⟨q, 10, none⟩ (.string ex.s)).setCell ⟨q, 11, none⟩ (.slice A3 ex.args.length c3) = W14 at hd14 hk14 hB14 ⊢
      have ho14 := hd14.own
      have hr14 := hd14.res
      clear x7 x8 x9 x10 x11 g7 g8 g9 g10 g11
      have x0 := ho14.at_ 0 _ rfl
      have x1 := ho14.at_ 1 _ rfl
      have x2 := ho14.at_ 2 _ rfl
      have x3 := ho14.at_ 3 _ rfl
      have x4 := ho14.at_ 4 _ rfl
      have x5 := ho14.at_ 5 _ rfl
      have x6 := ho14.at_ 6 _ rfl
      have x7 := ho14.at_ 7 _ rfl
      have x8 := ho14.at_ 8 _ rfl
      have x9 := ho14.at_ 9 _ rfl
      have x10 := ho14.at_ 10 _ rfl
      have x11 := ho14.at_ 11 _ rfl
      have r0 := hr14.at_ 0 _ rfl
      have r1 := hr14.at_ 1 _ rfl
      have r2 := hr14.at_ 2 _ rfl
      have r3 := hr14.at_ 3 _ rfl
      have r4 := hr14.at_ 4 _ rfl
      have r5 := hr14.at_ 5 _ rfl
      have r6 := hr14.at_ 6 _ rfl
      have r7 := hr14.at_ 7 _ rfl
      have r8 := hr14.at_ 8 _ rfl
      have r9 := hr14.at_ 9 _ rfl
      have r10 := hr14.at_ 10 _ rfl
      have r11 := hr14.at_ 11 _ rfl
      have k0 := hr14.free 0
      have k1 := hr14.free 1
      have k2 := hr14.free 2
      have k3 := hr14.free 3
      have k4 := hr14.free 4
      have k5 := hr14.free 5
      have k6 := hr14.free 6
      have k7 := hr14.free 7
      have k8 := hr14.free 8
      have k9 := hr14.free 9
      have k10 := hr14.free 10
      have k11 := hr14.free 11
      have HD14 := Lib.hid hd14; have HK14 := Lib.hid hk14; have HB14 := Lib.hid hB14
      clear hd14 hk14 hB14
      clear ho14 hr14
      go_wp2_with fail
      refine bodyPost_ret (v := .agg #[.string n, .string v, .slice A ps.length c, .int .i64 ty.kind, .string ty.of_, .string ty.name, .slice A2 ty.args.length c2, .int .i64 ex.kind, .int .i64 ex.n, .string ex.of_, .string ex.s, .slice A3 ex.args.length c3]) (by simp [results, Tryz.results127, go_sem, r0, r1, r2, r3, r4, r5, r6, r7, r8, r9, r10, r11]) rfl ?_
      have hnr : ∀ m, B ≤ m → ¬ fresh m W13.heap.size W.heap.size := fun m hm h => by have := h.1; omega
      have hk15 := fun m (hm : B ≤ m) => (((((((((((((HK14.out m hm).setCell (q := ⟨W.heap.size, 0, none⟩) (hnr m hm) (.string n)).setCell (q := ⟨W.heap.size, 1, none⟩) (hnr m hm) (.string v)).setCell (q := ⟨W.heap.size, 2, none⟩) (hnr m hm) (.slice A ps.length c)).setCell (q := ⟨W.heap.size, 3, none⟩) (hnr m hm) (.int .i64 ty.kind)).setCell (q := ⟨W.heap.size, 4, none⟩) (hnr m hm) (.string ty.of_)).setCell (q := ⟨W.heap.size, 5, none⟩) (hnr m hm) (.string ty.name)).setCell (q := ⟨W.heap.size, 6, none⟩) (hnr m hm) (.slice A2 ty.args.length c2)).setCell (q := ⟨W.heap.size, 7, none⟩) (hnr m hm) (.int .i64 ex.kind)).setCell (q := ⟨W.heap.size, 8, none⟩) (hnr m hm) (.int .i64 ex.n)).setCell (q := ⟨W.heap.size, 9, none⟩) (hnr m hm) (.string ex.of_)).setCell (q := ⟨W.heap.size, 10, none⟩) (hnr m hm) (.string ex.s)).setCell (q := ⟨W.heap.size, 11, none⟩) (hnr m hm) (.slice A3 ex.args.length c3))
      have hd15 := (((((((((((HD14.out.setR 0 (.string n)).setR 1 (.string v)).setR 2 (.slice A ps.length c)).setR 3 (.int .i64 ty.kind)).setR 4 (.string ty.of_)).setR 5 (.string ty.name)).setR 6 (.slice A2 ty.args.length c2)).setR 7 (.int .i64 ex.kind)).setR 8 (.int .i64 ex.n)).setR 9 (.string ex.of_)).setR 10 (.string ex.s)).setR 11 (.slice A3 ex.args.length c3)
      have hl15 := hd15.look
      have hup : ∀ m k, B ≤ m → fresh m W13.heap.size k → fresh W.heap.size W14.heap.size k := fun m k hm hk => ⟨by have := hk.1; omega, by have := hk.2; have := HB14.out; omega⟩
      refine .inl ⟨_, L13, _, HX13.out, rfl, ⟨[.string n, .string v, .slice A ps.length c, .int .i64 ty.kind, .string ty.of_, .string ty.name, .slice A2 ty.args.length c2, .int .i64 ex.kind, .int .i64 ex.n, .string ex.of_, .string ex.s, .slice A3 ex.args.length c3], rfl, _, [.int .i64 ty.kind, .string ty.of_, .string ty.name, .slice A2 ty.args.length c2], [.int .i64 ex.kind, .int .i64 ex.n, .string ex.of_, .string ex.s, .slice A3 ex.args.length c3], rfl, HNO.out, HVO.out, ?_, ?_, ?_⟩, hl15⟩
      · simp only [size_set]
        exact SliceOf.stays FieldR.stays HPS.out (fun k hk => hup _ _ (Nat.le_refl _) hk) (hk15 B (Nat.le_refl _))
      · simp only [size_set]
        exact TyR.stays _ _ _ _ _ _ HY13.out (fun k hk => ⟨by have := hk.1; omega, by have := hk.2; have := HB14.out; omega⟩) ((hk15 W9.heap.size (by omega)).mono (fun k hk => ⟨hk.1, by have := hk.2; omega⟩))
      · simp only [size_set]
        exact ExR.stays _ _ _ _ _ _ HZ13.out (fun k hk => hup W12.heap.size _ (by omega) hk) (hk15 W12.heap.size (by omega))
    | false =>
      obtain ⟨hT, rfl⟩ := hT.no
      have hm8 := hM7.out.trans (pars_go hT)
      have hbB : b < B := by have := HBE.out; have := hd8.lt; have := hd8.far; omega
      have hqB : q < B := by have := HBE.out; omega
      have ho8 := hd8.own
      have x2 := ho8.at_ 2 _ rfl
      have HM8 := Lib.hid hm8; have HD8 := Lib.hid hd8; have HO8 := Lib.hid hO8; have HG8 := Lib.hid hG7
      clear hm8 hd8 hO8 hG7
      clear hl8 hd7 hO7 hM7 hT HTK ho8
      go_upto_if 23 with (fail)
      go_cut [] (fun wc => ∃ (L' : List Token), L'.length ≤ L8.length ∧ Aside (M = prThen prPar (fun p => prPars m (ps ++ [p])) L') ∧
        Aside (DuoT 83 b F W q #[.string ⟨#[]⟩, .string ⟨#[]⟩, .slice none 0 0, .int .i64 0, .string ⟨#[]⟩, .string ⟨#[]⟩, .slice none 0 0, .int .i64 0, .int .i64 0, .string ⟨#[]⟩, .string ⟨#[]⟩, .slice none 0 0] #[.string n, .string v, .slice A ps.length c, .int .i64 0, .string ⟨#[]⟩, .string ⟨#[]⟩, .slice none 0 0, .int .i64 0, .int .i64 0, .string ⟨#[]⟩, .string ⟨#[]⟩, .slice none 0 0] wc L' 0) ∧ Aside (Owns FieldR 5 78 B wc G (.slice A ps.length c) ps) ∧ Aside (B ≤ wc.heap.size))
      case first =>
        by_cases hp : ps.length = 0
        · have hpz : ¬ ((0 : Int) < (ps.length : Int)) := by omega
          have hx9 := HM8.out
          rw [if_pos hp] at hx9
          have hx10 : M = prThen prPar (fun p => prPars m (ps ++ [p])) L8 := hx9.trans (prThen_ok rfl)
          have hpz2 : (decide ((0 : Int) < (ps.length : Int))) = false := decide_eq_false hpz
          have HX9 := Lib.hid hx10
          clear hx10
          clear hx9 hp
          go_wp2_with fail
          go_meet
          exact ⟨L8, Nat.le_refl _, aside HX9.out, aside HD8.out, aside HO8.out, aside (by omega)⟩
        · have hpz : (0 : Int) < (ps.length : Int) := by omega
          have hx9 := HM8.out
          rw [if_neg hp] at hx9
          have hms := must_any HD8.out.look.start sComma
          have HX9 := Lib.hid hx9; have HMS := Lib.hid hms
          clear hx9 hms
          clear hp
          go_wp2_with fail
          refine HMS.out.mono ?_
          rintro e W9 ⟨L9, (⟨rfl, hm9, hl9⟩ | ⟨rfl, hm9, hl9⟩)⟩
          · have hx10 := HX9.out.trans (prThen_ok (prMust_yes hm9))
            have hd9 := HD8.out.go hl9
            have hO9 := HO8.out.read FieldR.stays hl9.grew hbB HG8.out
            have ht9 := take_len hm9
            have hs9 := hl9.size
            have HX10 := Lib.hid hx10; have HD9 := Lib.hid hd9; have HO9 := Lib.hid hO9
            clear hx10 hd9 hO9
            clear hl9 hm9
            go_wp2_with fail
            go_meet
            exact ⟨L9, by omega, aside HX10.out, aside HD9.out, aside HO9.out, aside (by omega)⟩
          · have hx10 : R = .error 4 := HME.out _ (HX9.out.trans (prThen_err (prMust_no hm9)))
            have hd9 := HD8.out.go hl9
            have HX10 := Lib.hid hx10; have HD9 := Lib.hid hd9
            clear hx10 hd9
            clear hl9 hm9
            go_wp2_with fail
            exact ⟨rfl, .inr ⟨4, L9, 0, HX10.out, rfl, HD9.out.look, Int.le_refl _, by omega⟩⟩
      case rest =>
      obtain ⟨L9, hl98, hx9, hd9, hO9, hB9⟩ := hcut
      obtain ⟨W9, rfl⟩ : ∃ W, W = wc := ⟨_, rfl⟩
      have hB9 := hB9.out
      have hx9 := hx9.out
      rw [par_go] at hx9
      have hnm := name_any hd9.out.look.start hd9.out.look.lt
      have HX9 := Lib.hid hx9; have HD9 := Lib.hid hd9; have HO9 := Lib.hid hO9; have HNM := Lib.hid hnm
      clear hx9 hd9 hO9 hnm
      clear x2 HM8 HD8 HO8
      go_wp2_with fail
      refine HNM.out.mono ?_
      rintro e W10 (⟨pn, L10, _, hn, rfl, ⟨rfl, hpo⟩, hl10⟩ | ⟨k, L10, d10, hn, rfl, hl10, h1, h2⟩)
      rotate_left
      · have hx10 : R = .error k := HME.out _ (HX9.out.trans (prThen_err hn))
        have hd10 := HD9.out.out.go hl10
        have HX10 := Lib.hid hx10; have HD10 := Lib.hid hd10
        clear hx10 hd10
        clear hl10 hn
        go_wp2_with fail
        exact ⟨rfl, .inr ⟨k, L10, d10, HX10.out, rfl, HD10.out.look, h1, h2⟩⟩
      have hx10 := HX9.out.trans (prThen_ok hn)
      have hd10 := HD9.out.out.go hl10
      have hO10 := HO9.out.out.read FieldR.stays hl10.grew hbB HG8.out
      have hs10 : L10.length + 1 ≤ L9.length := by
        cases L9 with
        | nil => cases hn
        | cons t u =>
          rw [prName_cons] at hn
          split at hn
          · cases hn; simp
          · cases hn
      have hB10 := hl10.size
      have hfoot : ∀ k, G k → k < W10.heap.size := fun k hk => (hO10.foot hk).1
      have hrow : ∀ k, (Value.slice A ps.length c).ownBlock = some k → k < W10.heap.size := fun k hk => (hO10.row hk).2
      have HX10 := Lib.hid hx10; have HD10 := Lib.hid hd10; have HO10 := Lib.hid hO10; have HPO := Lib.hid hpo; have HFOOT := Lib.hid hfoot; have HROW := Lib.hid hrow
      clear hx10 hd10 hO10 hpo hfoot hrow
      clear hl10 hn HNM HD9 HO9 HX9
      go_upto_region 10 with fail
      have hBp := Box.made W10 78 #[.string pn, .int .i64 0, .string ⟨#[]⟩, .string ⟨#[]⟩, .slice none 0 0]
      have hbp : Below W10.heap.size W10 (W10.alloc (.cells #[.string pn, .int .i64 0, .string ⟨#[]⟩, .string ⟨#[]⟩, .slice none 0 0] 78)) := by go_grown
      have hzp : (W10.alloc (.cells #[.string pn, .int .i64 0, .string ⟨#[]⟩, .string ⟨#[]⟩, .slice none 0 0] 78)).heap.size = W10.heap.size + 1 := by simp
      generalize W10.alloc (.cells #[.string pn, .int .i64 0, .string ⟨#[]⟩, .string ⟨#[]⟩, .slice none 0 0] 78) = W11 at hBp hbp hzp ⊢
      have hd11 := HD10.out.below hbp
      have hO11 := HO10.out.below FieldR.stays hbp
      have hms := must_any hd11.look.start sColon
      have hB11 := hbp.size
      obtain ⟨pq, hpq⟩ : ∃ z, W10.heap.size = z := ⟨_, rfl⟩
      rw [hpq] at hBp ⊢
      have hpqb : pq ≠ b := by omega
      have hpqq : pq ≠ q := by omega
      have hqpq : q ≠ pq := by omega
      have hpl := hBp.lt
      have HD11 := Lib.hid hd11; have HO11 := Lib.hid hO11; have HMS := Lib.hid hms; have HP11 := Lib.hid hBp; have HPQ := Lib.hid hpq
      clear hd11 hO11 hms hBp hpq
      clear hbp hzp HD10 HO10
      go_wp2_with fail
      refine HMS.out.mono ?_
      rintro e W12 ⟨L12, (⟨rfl, hm12, hl12⟩ | ⟨rfl, hm12, hl12⟩)⟩
      rotate_left
      · have hx12 : R = .error 4 := HME.out _ (HX10.out.trans (prThen_err (prMust_no hm12)))
        have hd12 := HD11.out.go hl12
        have HX12 := Lib.hid hx12; have HD12 := Lib.hid hd12
        clear hx12 hd12
        clear hl12 hm12
        go_wp2_with fail
        exact ⟨rfl, .inr ⟨4, L12, 0, HX12.out, rfl, HD12.out.look, Int.le_refl _, by omega⟩⟩
      have hx12 := HX10.out.trans (prThen_ok (prMust_yes hm12))
      have hd12 := HD11.out.go hl12
      have hO12 := HO11.out.read FieldR.stays hl12.grew hbB HG8.out
      have hP12 := hl12.grew.box_ HP11.out hpqb
      have ht12 := take_len hm12
      have hB12 := hl12.size
      have hkd := rkind_any 40 W12 L12 0 hd12.look.start (by omega) (by omega)
      have HX12 := Lib.hid hx12; have HD12 := Lib.hid hd12; have HO12 := Lib.hid hO12; have HP12 := Lib.hid hP12; have HKD := Lib.hid hkd
      clear hx12 hd12 hO12 hP12 hkd
      clear hl12 hm12 HMS HD11 HO11 HX10 HP11
      go_wp2_with fail
      refine HKD.out.mono ?_
      rintro e W13 (⟨ty, L13, _, hn, rfl, ⟨cs, rfl, hY⟩, hl13⟩ | ⟨k, L13, d13, hn, rfl, hl13, h1, h2⟩)
      rotate_left
      · have hx13 : R = .error k := HME.out _ (HX12.out.trans (prThen_err hn))
        have hd13 := HD12.out.go hl13
        have HX13 := Lib.hid hx13; have HD13 := Lib.hid hd13
        clear hx13 hd13
        clear hl13 hn
        go_wp2_with fail
        exact ⟨rfl, .inr ⟨k, L13, d13, HX13.out, rfl, HD13.out.look, h1, h2⟩⟩
      have hx13 := HX12.out.trans (prThen_ok hn)
      have hd13 := HD12.out.go hl13
      have hO13 := HO12.out.read FieldR.stays hl13.grew hbB HG8.out
      have hP13 := hl13.grew.box_ HP12.out hpqb
      have hs13 := short_kind 40 _ _ _ hn
      have hB13 := hl13.size
      obtain ⟨A2, c2, rfl⟩ := TyR.form hY
      have x1 := hP13.at_ 1 _ rfl
      have x2 := hP13.at_ 2 _ rfl
      have x3 := hP13.at_ 3 _ rfl
      have x4 := hP13.at_ 4 _ rfl
      have g1 := hP13.free 1
      have g2 := hP13.free 2
      have g3 := hP13.free 3
      have g4 := hP13.free 4
      have HX13 := Lib.hid hx13; have HD13 := Lib.hid hd13; have HO13 := Lib.hid hO13; have HP13 := Lib.hid hP13; have HYR := Lib.hid hY
      clear hx13 hd13 hO13 hP13 hY
      clear hl13 hn HKD HD12 HO12 HX12 HP12
      go_upto_region 12 with fail
      have hfp : ∀ k, G k → k ≠ pq := fun k hk => by have := HFOOT.out k hk; have := HPQ.out; omega
      have hrp : ∀ k, (Value.slice A ps.length c).ownBlock = some k → k ≠ pq := fun k hk => by have := HROW.out k hk; have := HPQ.out; omega
      have hP14 := (((HP13.out.put 1 (.int .i64 ty.kind)).put 2 (.string ty.of_)).put 3 (.string ty.name)).put 4 (.slice A2 ty.args.length c2)
      simp only [List.setIfInBounds_toArray, List.set_cons_zero, List.set_cons_succ] at hP14
      have hO14 := (((HO13.out.setFar FieldR.stays (p := ⟨pq, 1, none⟩) hfp hrp (.int .i64 ty.kind)).setFar FieldR.stays (p := ⟨pq, 2, none⟩) hfp hrp (.string ty.of_)).setFar FieldR.stays (p := ⟨pq, 3, none⟩) hfp hrp (.string ty.name)).setFar FieldR.stays (p := ⟨pq, 4, none⟩) hfp hrp (.slice A2 ty.args.length c2)
      have hpW : W.heap.size ≤ pq := by have := HD13.out.far; have := HPQ.out; omega
      have hrne : W.heap.size ≠ pq := by have := HD13.out.far; have := HPQ.out; omega
      have hd14 : DuoT 83 b F W q #[.string ⟨#[]⟩, .string ⟨#[]⟩, .slice none 0 0, .int .i64 0, .string ⟨#[]⟩, .string ⟨#[]⟩, .slice none 0 0, .int .i64 0, .int .i64 0, .string ⟨#[]⟩, .string ⟨#[]⟩, .slice none 0 0] #[.string n, .string v, .slice A ps.length c, .int .i64 0, .string ⟨#[]⟩, .string ⟨#[]⟩, .slice none 0 0, .int .i64 0, .int .i64 0, .string ⟨#[]⟩, .string ⟨#[]⟩, .slice none 0 0] ((((W13.setCell ⟨pq, 1, none⟩ (.int .i64 ty.kind)).setCell ⟨pq, 2, none⟩ (.string ty.of_)).setCell ⟨pq, 3, none⟩ (.string ty.name)).setCell ⟨pq, 4, none⟩ (.slice A2 ty.args.length c2)) L13 0 :=
        ⟨(((HD13.out.look.set (p := ⟨pq, 1, none⟩) hpW hbl _).set (p := ⟨pq, 2, none⟩) hpW hbl _).set (p := ⟨pq, 3, none⟩) hpW hbl _).set (p := ⟨pq, 4, none⟩) hpW hbl _,
         (((HD13.out.res.far (p := ⟨pq, 1, none⟩) hrne _).far (p := ⟨pq, 2, none⟩) hrne _).far (p := ⟨pq, 3, none⟩) hrne _).far (p := ⟨pq, 4, none⟩) hrne _,
         (((HD13.out.own.far (p := ⟨pq, 1, none⟩) hqpq _).far (p := ⟨pq, 2, none⟩) hqpq _).far (p := ⟨pq, 3, none⟩) hqpq _).far (p := ⟨pq, 4, none⟩) hqpq _, HD13.out.far, HD13.out.lt⟩
      have hyk : ¬ fresh W12.heap.size W13.heap.size pq := fun h => by have := h.1; omega
      have hY14 := TyR.stays _ _ _ _ _ _ HYR.out (fun _ h => h) (((((Keeps.refl _ _).setCell (q := ⟨pq, 1, none⟩) hyk (.int .i64 ty.kind)).setCell (q := ⟨pq, 2, none⟩) hyk (.string ty.of_)).setCell (q := ⟨pq, 3, none⟩) hyk (.string ty.name)).setCell (q := ⟨pq, 4, none⟩) hyk (.slice A2 ty.args.length c2))
      have hB14 : ((((W13.setCell ⟨pq, 1, none⟩ (.int .i64 ty.kind)).setCell ⟨pq, 2, none⟩ (.string ty.of_)).setCell ⟨pq, 3, none⟩ (.string ty.name)).setCell ⟨pq, 4, none⟩ (.slice A2 ty.args.length c2)).heap.size = W13.heap.size := by simp only [size_set]
      generalize (((W13.setCell ⟨pq, 1, none⟩ (.int .i64 ty.kind)).setCell ⟨pq, 2, none⟩ (.string ty.of_)).setCell ⟨pq, 3, none⟩ (.string ty.name)).setCell ⟨pq, 4, none⟩ (.slice A2 ty.args.length c2) = W14 at hP14 hO14 hd14 hY14 hB14 ⊢
      have ho14 := hd14.own
      clear x1 x2 x3 x4 g1 g2 g3 g4
      have x0 := hP14.at_ 0 _ rfl
      have x1 := hP14.at_ 1 _ rfl
      have x2 := hP14.at_ 2 _ rfl
      have x3 := hP14.at_ 3 _ rfl
      have x4 := hP14.at_ 4 _ rfl
      have y2 := ho14.at_ 2 _ rfl
      have hy2 := fun o => (ho14.alloc o).at_ 2 _ rfl
      have hyf := fun o => (ho14.alloc o).free 2
      have hFR : FieldR W14 (fresh W12.heap.size W13.heap.size) [.string pn, .int .i64 ty.kind, .string ty.of_, .string ty.name, .slice A2 ty.args.length c2] ⟨pn, ty⟩ := ⟨[.int .i64 ty.kind, .string ty.of_, .string ty.name, .slice A2 ty.args.length c2], rfl, HPO.out, hY14⟩
      have hql : q < W14.heap.size := ho14.lt
      have HD14 := Lib.hid hd14; have HO14 := Lib.hid hO14; have HFR := Lib.hid hFR; have HB14 := Lib.hid hB14
      clear hd14 hO14 hFR hB14
      clear hP14 HP13 HO13 HD13 HYR ho14 hY14 hfp hrp
      go_wp2_with (at_builtin; go_must ((refine wpList_push FieldR.stays (.agg #[.string ⟨#[]⟩, .int .i64 0, .string ⟨#[]⟩, .string ⟨#[]⟩, .slice none 0 0]) [.string pn, .int .i64 ty.kind, .string ty.of_, .string ty.name, .slice A2 ty.args.length c2] ⟨pn, ty⟩ rfl rfl Tryz.underlying24 (bytes := 80) (by kernel_rfl) HO14.out rfl rfl (by decide) rfl rfl HFR.out (rfield_cells HFR.out) (fun k hk => ⟨by have := hk.2; have := HB14.out; omega, fun e => by have := HROW.out k e.symm; have := hk.1; omega⟩) (by unfold maxLen; omega) (by omega) (by have := HB14.out; omega) ?_); (intro A6 c6 W15 hO6 hgr _; have hd15 := HD14.out.grown hgr hqB; have ho15 := hd15.own; have z2 := ho15.at_ 2 _ rfl; have f2 := ho15.free 2; have hgs := hgr.size; have HD15 := Lib.hid hd15; have HO15 := Lib.hid hO6; have HGS := Lib.hid hgs; clear hO6 hgr hd15 ho15 hgs)))
      obtain ⟨m', rfl⟩ : ∃ m', m = m' + 1 := ⟨m - 1, by omega⟩
      go_roundg L13.length
      case measure => omega
      case rel =>
        have hd16 := HD15.out.setX 2 (.slice A6 (ps.length + 1) c6)
        simp only [List.setIfInBounds_toArray, List.set_cons_zero, List.set_cons_succ] at hd16
        have hG16 : ∀ k, G k ∨ fresh W12.heap.size W13.heap.size k → B ≤ k := fun k hk => hk.elim (HG8.out k) (fun h => by have := h.1; omega)
        refine ⟨m', c6, A6, ps ++ [⟨pn, ty⟩], L13, (fun k => G k ∨ fresh W12.heap.size W13.heap.size k), Nat.le_refl _, by omega, by omega, by rw [List.length_append, List.length_singleton]; omega, aside HX13.out, aside ?_, aside ?_, aside hG16, aside ?_⟩
        · rw [List.length_append, List.length_singleton]; exact hd16
        · have h := HO15.out.set FieldR.stays (p := ⟨q, 2, none⟩) (by show q < B; omega) (fun k hk => by have := hG16 k hk; show k ≠ q; omega) (.slice A6 (ps.length + 1) c6)
          rw [List.length_append, List.length_singleton]; exact h
        · rw [size_set]; have := HGS.out; have := HB14.out; omega

end Go.Proofs.YtjaladhdnbhliaaGreatDoor
