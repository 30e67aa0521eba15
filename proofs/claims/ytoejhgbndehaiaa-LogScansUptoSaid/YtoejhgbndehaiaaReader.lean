/- The reader of bytes: (*record.reader).take, count, text. -/
import Derived.Test.YtoejhgbndehaiaaReads
import Derived.Test.YtoejhgbndehaiaaBase
import Derived.Test.YtoejhgbndehaiaaRows
import Derived.Deep.QuietTactic
import Derived.Deep.RegionHeld3
import Derived.Deep.RegionWith
import Derived.Deep.DeepCutAuto
import Derived.Deep.Light
import Derived.Deep.DeepMust
import Derived.Deep.DeepFit
import Derived.BigQuiet
import Derived.WalkSmall
import Derived.Handy
namespace Go.Proofs.Ytoejhgbndehaiaa
open Go.RowKit Go.Shelf

/-- The reader at block b holds these bytes, and this fault. -/
abbrev Eye (w : World) (b : Nat) (s : ByteArray) (e : Int) : Prop := Box w b 114 #[.string s, .int .i64 e]

/-- What is read behind a call: the reader's new state; nothing else that was there has changed. -/
def ReadTo {α : Type} (b : Nat) (p : Rd α) (s : ByteArray) (e : Int) (x : α) (w w' : World) : Prop :=
  ∃ (s' : ByteArray) (e' : Int), Eye w' b s' e' ∧ Grew b w w' (some b) ∧ okS s' ∧ I64 e' ∧ Reads p s.data.toList e x s'.data.toList e'

theorem Grew.refl_ (b : Nat) (w : World) (r : Option Nat) (h : ∀ k, r = some k → b ≤ k) : Grew b w w r := ⟨rfl, rfl, rfl, Nat.le_refl _, fun _ _ _ => rfl, h⟩
theorem Grew.drew_ {b : Nat} {w w' : World} {r : Option Nat} (h : Grew b w.drew w' r) : Grew b w w' r := ⟨h.os, h.tape, h.output, h.size, h.block, h.low⟩
theorem Grew.cell_ {b : Nat} (w : World) (i : Nat) (u : Value) : Grew b w (w.setCell ⟨b, i, none⟩ u) (some b) :=
  ⟨rfl, rfl, rfl, by simp [World.setCell], fun k _ hk => Below.heap_setCell _ _ _ _ (fun e => hk (by rw [show k = b from e])), fun k hk => by injection hk with hk; omega⟩
theorem Grew.trans_ {b : Nat} {w a c : World} {r : Option Nat} (h : Grew b w a r) (k : Grew b a c r) : Grew b w c r :=
  ⟨k.os.trans h.os, k.tape.trans h.tape, k.output.trans h.output, Nat.le_trans h.size k.size, fun j hj hr => (k.block j (Nat.lt_of_lt_of_le hj h.size) hr).trans (h.block j hj hr), h.low⟩

theorem Grew.of_below {b : Nat} {w w' : World} {r : Option Nat} (h : Below w.heap.size w w') (hr : ∀ k, r = some k → b ≤ k) : Grew b w w' r := ⟨h.os, h.tape, h.output, h.size, fun k hk _ => h.block k hk, hr⟩
theorem Grew.box_ {b n : Nat} {w w' : World} {t : TypeId} {cs : Array Value} (h : Grew b w w' (some b)) (hB : Box w n t cs) (hn : n ≠ b) : Box w' n t cs := Box.of_heap hB (h.block n hB.lt (fun e => hn (by injection e)))
theorem Grew.set_new {b : Nat} {w w' : World} {r : Option Nat} (h : Grew b w w' r) {p : Addr} (hp : w.heap.size ≤ p.block) (u : Value) : Grew b w (w'.setCell p u) r :=
  ⟨h.os, h.tape, h.output, by rw [size_set]; exact h.size, fun k hk hr => (Below.heap_setCell _ _ _ _ (by omega)).trans (h.block k hk hr), h.low⟩
theorem Grew.drewN_ {b n : Nat} {w w' : World} {r : Option Nat} (h : Grew b (w.drewN n) w' r) : Grew b w w' r := ⟨h.os, h.tape, h.output, h.size, h.block, h.low⟩
theorem Grew.endN {b n : Nat} {w w' : World} {r : Option Nat} (h : Grew b w w' r) : Grew b w (w'.drewN n) r := ⟨h.os, h.tape, h.output, h.size, h.block, h.low⟩
theorem Grew.then_ {b : Nat} {w a c : World} {r row : Option Nat} (h : Grew b w a r) (k : Grew w.heap.size a c row) : Grew b w c r :=
  ⟨k.os.trans h.os, k.tape.trans h.tape, k.output.trans h.output, Nat.le_trans h.size k.size, fun j hj hr => (k.block j (Nat.lt_of_lt_of_le hj h.size) (fun e => by have := k.low j e.symm; omega)).trans (h.block j hj hr), h.low⟩
theorem Grew.keeps {b n : Nat} {w w' : World} (h : Grew b w w' (some b)) (hb : b < n) {m : Nat} (hs : m ≤ w.heap.size) : Keeps (fresh n m) w w' :=
  fun p hp => World.cell?_of_block (h.block p.block (by have := hp.2; omega) (fun e => by injection e with e; have := hp.1; omega))
theorem some_le {b : Nat} : ∀ k, some b = some k → b ≤ k := fun k hk => by injection hk with hk; omega
/-- The cell of a captured pointer to the reader. -/
abbrev Held (w : World) (q b : Nat) : Prop := Box w q 112 #[.pointer (some ⟨b, 0, none⟩)]
/-- A list of its own is kept while the reader reads. -/
theorem Owns.read {α : Type} {R : CR α} {sz base b : Nat} {e : TypeId} {F : Foot} {w w' : World} {v : Value} {l : List α} (hR : Stays R) (h : Owns R sz e base w F v l) (hg : Grew b w w' (some b)) (hb : b < base) (hF : ∀ k, F k → base ≤ k) : Owns R sz e base w' F v l :=
  h.kept hR hg.size fun k hk hk2 => hg.block k hk (fun e => by
    injection e with e
    rcases hk2 with h2 | h2
    · have := hF k h2; omega
    · have := (h.row h2).1; omega)

/-- What take tells, and leaves. -/
def takeOut (s : ByteArray) (e : Int) (n : Nat) : ByteArray := if e = 0 ∧ n ≤ s.size then s.extract 0 n else ⟨#[]⟩
def takeRest (s : ByteArray) (e : Int) (n : Nat) : ByteArray := if e = 0 ∧ n ≤ s.size then s.extract n s.size else s
def takeErr (s : ByteArray) (e : Int) (n : Nat) : Int := if e = 0 ∧ s.size < n then 5 else e

set_option maxRecDepth 100000 in
set_option maxHeartbeats 2000000 in
theorem take_any (b : Nat) (s : ByteArray) (e : Int) (n : Nat) (w : World) (hs : okS s) (hn : n ≤ 100000) (hB : Eye w b s e) :
    Calls Try.prog 99 #[.pointer (some ⟨b, 0, none⟩), .int .i64 n] w fun en w' => en = .returned (.string (takeOut s e n)) ∧ Eye w' b (takeRest s e n) (takeErr s e n) ∧ Grew b w w' (some b) := by
  have hsz : s.size ≤ 140737488355328 := hs
  have x0 := hB.at_ 0 _ rfl
  have x1 := hB.at_ 1 _ rfl
  have g0 := hB.free 0
  have g1 := hB.free 1
  have HB := Lib.hid hB
  clear hB
  by_cases he : e = 0
  · subst he
    by_cases hlt : s.size < n
    · have hltz : (s.size : Int) < (n : Int) := by omega
      go_enter Try.func99, Try.ntmps99
      go_wp2_with fail
      go_ret
      refine ⟨?_, ?_, Grew.cell_ _ _ _⟩
      · exact ret_str (by unfold takeOut; rw [if_neg (by omega)])
      · unfold takeRest takeErr
        rw [if_neg (by omega), if_pos ⟨rfl, hlt⟩]
        simpa using HB.out.put 1 (.int .i64 5)
    · have hltz : ¬ (s.size : Int) < (n : Int) := by omega
      go_enter Try.func99, Try.ntmps99
      go_wp2_with fail
      go_ret
      refine ⟨?_, ?_, Grew.cell_ _ _ _⟩
      · exact ret_str (by unfold takeOut; rw [if_pos ⟨rfl, by omega⟩])
      · unfold takeRest takeErr
        rw [if_pos ⟨rfl, by omega⟩, if_neg (by omega)]
        simpa using HB.out.put 0 (.string (s.extract n s.size))
  · have hez : (e == 0) = false := by simp [he]
    have hez2 : (e != 0) = true := by simp [he]
    go_enter Try.func99, Try.ntmps99
    go_wp2_with fail
    go_ret
    refine ⟨?_, ?_, Grew.refl_ _ _ _ (fun k hk => by injection hk with hk; omega)⟩
    · exact ret_str (by unfold takeOut; rw [if_neg (by simp [he])])
    · unfold takeRest takeErr
      rw [if_neg (by simp [he]), if_neg (by simp [he])]
      exact HB.out

theorem rest_data (s : ByteArray) (n : Nat) : (s.extract n s.size).data.toList = s.data.toList.drop n := by
  rw [ByteArray.data_extract, Array.toList_extract, List.extract_eq_take_drop]
  rw [List.take_of_length_le]
  simp
theorem take_one {s : ByteArray} {c : UInt8} {r : List UInt8} (h : s.data.toList = c :: r) : s.size = r.length + 1 ∧ s.extract 0 1 = ⟨#[c]⟩ ∧ (s.extract 1 s.size).data.toList = r := by
  refine ⟨?_, ?_, ?_⟩
  · show s.data.size = _
    rw [← Array.length_toList, h]; rfl
  · apply ByteArray.ext
    apply Array.ext'
    rw [ByteArray.data_extract, Array.toList_extract, List.extract_eq_take_drop, h]; rfl
  · rw [rest_data, h]; rfl

set_option maxRecDepth 100000 in
set_option maxHeartbeats 2000000 in
theorem count_any (b : Nat) (s : ByteArray) (e : Int) (w : World) (hs : okS s) (hei : I64 e) (hB : Eye w b s e) :
    Calls Try.prog 59 #[.pointer (some ⟨b, 0, none⟩)] w fun en w' => ∃ n : Nat, n ≤ 255 ∧ en = .returned (.int .i64 n) ∧ ReadTo b rdNum s e n w w' := by
  have htk := take_any b s e 1 w hs (by decide) hB
  by_cases he : e = 0
  · subst he
    cases hd : s.data.toList with
    | nil =>
      have h0 : s.size = 0 := by show s.data.size = 0; rw [← Array.length_toList, hd]; rfl
      have ho : takeOut s 0 1 = ⟨#[]⟩ := by unfold takeOut; rw [if_neg (by omega)]
      have hr : takeRest s 0 1 = s := by unfold takeRest; rw [if_neg (by omega)]
      have hx : takeErr s 0 1 = 5 := by unfold takeErr; rw [if_pos ⟨rfl, by omega⟩]
      rw [ho, hr, hx] at htk
      have HTK := Lib.hid htk; have HD := Lib.hid hd
      clear htk ho hr hx h0 hd
      go_enter Try.func59, Try.ntmps59
      go_wp2_with fail
      refine HTK.out.mono ?_
      rintro en w' ⟨rfl, hB2, hg⟩
      have H2 := Lib.hid hB2; have HG := Lib.hid hg
      clear hB2 hg
      go_wp2_with fail
      go_ret
      exact ⟨0, by decide, rfl, s, 5, H2.out, HG.out, hs, ⟨by decide, by decide⟩, .inr (.inl ⟨rfl, by rw [HD.out]; rfl, by decide⟩)⟩
    | cons c r =>
      obtain ⟨h0, h1, h2⟩ := take_one hd
      have ho : takeOut s 0 1 = ⟨#[c]⟩ := by unfold takeOut; rw [if_pos ⟨rfl, by omega⟩, h1]
      have hr : takeRest s 0 1 = s.extract 1 s.size := by unfold takeRest; rw [if_pos ⟨rfl, by omega⟩]
      have hx : takeErr s 0 1 = 0 := by unfold takeErr; rw [if_neg (by omega)]
      have hok : okS (s.extract 1 s.size) := by
        show (s.extract 1 s.size).data.size ≤ _
        rw [← Array.length_toList, h2]
        have : s.size ≤ 140737488355328 := hs
        omega
      rw [ho, hr, hx] at htk
      have hc := c.toNat_lt
      have HTK := Lib.hid htk; have HD := Lib.hid hd; have H2 := Lib.hid h2; have HOK := Lib.hid hok
      clear htk ho hr hx h0 hd h1 h2 hok
      go_enter Try.func59, Try.ntmps59
      go_wp2_with fail
      refine HTK.out.mono ?_
      rintro en w' ⟨rfl, hB2, hg⟩
      have HB2 := Lib.hid hB2; have HG := Lib.hid hg
      clear hB2 hg
      go_wp2_with fail
      go_ret
      exact ⟨c.toNat, by omega, ret_int (show wrap64 (c.toNat : Int) = c.toNat from IntWalk.wrap64_in _ (by omega)), _, 0, HB2.out, HG.out, HOK.out, ⟨by decide, by decide⟩, .inl ⟨rfl, by rw [HD.out, H2.out]; rfl, rfl⟩⟩
  · have ho : takeOut s e 1 = ⟨#[]⟩ := by unfold takeOut; rw [if_neg (by simp [he])]
    have hr : takeRest s e 1 = s := by unfold takeRest; rw [if_neg (by simp [he])]
    have hx : takeErr s e 1 = e := by unfold takeErr; rw [if_neg (by simp [he])]
    rw [ho, hr, hx] at htk
    have HTK := Lib.hid htk
    clear htk ho hr hx
    go_enter Try.func59, Try.ntmps59
    go_wp2_with fail
    refine HTK.out.mono ?_
    rintro en w' ⟨rfl, hB2, hg⟩
    have H2 := Lib.hid hB2; have HG := Lib.hid hg
    clear hB2 hg
    go_wp2_with fail
    go_ret
    exact ⟨0, by decide, rfl, s, e, H2.out, HG.out, hs, hei, .inr (.inr ⟨he, rfl⟩)⟩

theorem take_two {s : ByteArray} {c d : UInt8} {r : List UInt8} (h : s.data.toList = c :: d :: r) : s.size = r.length + 2 ∧ s.extract 0 2 = ⟨#[c, d]⟩ ∧ (s.extract 2 s.size).data.toList = r := by
  refine ⟨?_, ?_, ?_⟩
  · show s.data.size = _
    rw [← Array.length_toList, h]; rfl
  · apply ByteArray.ext
    apply Array.ext'
    rw [ByteArray.data_extract, Array.toList_extract, List.extract_eq_take_drop, h]; rfl
  · rw [rest_data, h]; rfl

theorem or_bytes (c d : UInt8) : bits BinOp.or IntKind.i64 (IntKind.i64.wrap (IntKind.i64.wrap (((⟨#[c, d]⟩ : ByteArray)[0]'(Nat.zero_lt_succ 1)).toNat : Int) * 256)) (IntKind.i64.wrap (((⟨#[c, d]⟩ : ByteArray)[1]'(Nat.lt_succ_self 1)).toNat : Int)) = ((c.toNat * 256 + d.toNat : Nat) : Int) := by
  show bits BinOp.or IntKind.i64 (IntKind.i64.wrap (IntKind.i64.wrap (c.toNat : Int) * 256)) (IntKind.i64.wrap (d.toNat : Int)) = _
  have hc := c.toNat_lt
  have hd := d.toNat_lt
  generalize c.toNat = x at *
  generalize d.toNat = y at *
  rw [IntWalk.i64_in (x : Int) (by omega), IntWalk.i64_in ((x : Int) * 256) (by omega), IntWalk.i64_in (y : Int) (by omega)]
  have h1 : (x : Int) * 256 = ((x * 256 : Nat) : Int) := by simp
  have h2 : x * 256 ||| y = x * 256 + y := by
    have := Nat.shiftLeft_add_eq_or_of_lt (i := 8) (by simpa using hd : y < 2 ^ 8) x
    rw [Nat.shiftLeft_eq] at this
    exact this.symm
  rw [h1, ← h2]
  have ha : (BitVec.ofInt 64 ((x * 256 : Nat) : Int)).toNat = x * 256 := by rw [BitVec.toNat_ofInt]; omega
  have hb : (BitVec.ofInt 64 (y : Int)).toNat = y := by rw [BitVec.toNat_ofInt]; omega
  show IntKind.i64.wrap (((BitVec.ofInt 64 ((x * 256 : Nat) : Int)) ||| (BitVec.ofInt 64 (y : Int))).toNat : Int) = _
  rw [BitVec.toNat_or, ha, hb, h2]
  exact IntWalk.i64_in _ (by omega)

theorem text_end {b : Nat} {s s2 : ByteArray} {c d : UInt8} {r : List UInt8} {w w2 : World} (hd : s.data.toList = c :: d :: r) (h3 : s2.data.toList = r) (hok : okS s2)
    (hB : Eye w2 b (takeRest s2 0 (c.toNat * 256 + d.toNat)) (takeErr s2 0 (c.toNat * 256 + d.toNat))) (hg : Grew b w w2 (some b)) :
    ∃ x : ByteArray, okS x ∧ Ending.returned (.string (takeOut s2 0 (c.toNat * 256 + d.toNat))) = .returned (.string x) ∧ ReadTo b rdStr s 0 x w w2 := by
  have hl : s2.size = r.length := by show s2.data.size = _; rw [← Array.length_toList, h3]
  have hs2 : s2.size ≤ 140737488355328 := hok
  by_cases hlt : s2.size < c.toNat * 256 + d.toNat
  · have ho : takeOut s2 0 (c.toNat * 256 + d.toNat) = ⟨#[]⟩ := by unfold takeOut; rw [if_neg (by omega)]
    have hr : takeRest s2 0 (c.toNat * 256 + d.toNat) = s2 := by unfold takeRest; rw [if_neg (by omega)]
    have hx : takeErr s2 0 (c.toNat * 256 + d.toNat) = 5 := by unfold takeErr; rw [if_pos ⟨rfl, hlt⟩]
    rw [hr, hx] at hB
    rw [ho]
    refine ⟨⟨#[]⟩, Nat.zero_le _, rfl, s2, 5, hB, hg, hok, ⟨by decide, by decide⟩, .inr (.inl ⟨rfl, ?_, by decide⟩)⟩
    rw [hd]; unfold rdStr; simp only; rw [if_pos (by omega)]
  · have ho : takeOut s2 0 (c.toNat * 256 + d.toNat) = s2.extract 0 (c.toNat * 256 + d.toNat) := by unfold takeOut; rw [if_pos ⟨rfl, by omega⟩]
    have hr : takeRest s2 0 (c.toNat * 256 + d.toNat) = s2.extract (c.toNat * 256 + d.toNat) s2.size := by unfold takeRest; rw [if_pos ⟨rfl, by omega⟩]
    have hx : takeErr s2 0 (c.toNat * 256 + d.toNat) = 0 := by unfold takeErr; rw [if_neg (by omega)]
    rw [hr, hx] at hB
    rw [ho]
    have hn : (s2.extract 0 (c.toNat * 256 + d.toNat)) = ⟨(r.take (c.toNat * 256 + d.toNat)).toArray⟩ := by
      apply ByteArray.ext
      apply Array.ext'
      rw [ByteArray.data_extract, Array.toList_extract, List.extract_eq_take_drop, h3]; simp
    have hok2 : okS (s2.extract (c.toNat * 256 + d.toNat) s2.size) := by
      show (s2.extract (c.toNat * 256 + d.toNat) s2.size).data.size ≤ _
      rw [← Array.length_toList, rest_data, List.length_drop, h3]
      omega
    refine ⟨_, ?_, rfl, _, 0, hB, hg, hok2, ⟨by decide, by decide⟩, .inl ⟨rfl, ?_, rfl⟩⟩
    · rw [hn]
      show (r.take (c.toNat * 256 + d.toNat)).toArray.size ≤ _
      rw [List.size_toArray, List.length_take]
      omega
    · rw [hd, rest_data, h3, hn]; unfold rdStr; simp only; rw [if_neg (by omega)]

set_option maxRecDepth 100000 in
set_option maxHeartbeats 2000000 in
theorem text_any (b : Nat) (s : ByteArray) (e : Int) (w : World) (hs : okS s) (hei : I64 e) (hB : Eye w b s e) :
    Calls Try.prog 56 #[.pointer (some ⟨b, 0, none⟩)] w fun en w' => ∃ x : ByteArray, okS x ∧ en = .returned (.string x) ∧ ReadTo b rdStr s e x w w' := by
  have htk := take_any b s e 2 w hs (by decide) hB
  by_cases hfail : e ≠ 0 ∨ s.size < 2
  · have ho : takeOut s e 2 = ⟨#[]⟩ := by unfold takeOut; rw [if_neg (by omega)]
    have hr : takeRest s e 2 = s := by unfold takeRest; rw [if_neg (by omega)]
    have hx : takeErr s e 2 = if e = 0 then 5 else e := by
      unfold takeErr
      by_cases he : e = 0
      · rw [if_pos ⟨he, by omega⟩, if_pos he]
      · rw [if_neg (by simp [he]), if_neg he]
    rw [ho, hr, hx] at htk
    obtain ⟨e', he'⟩ : ∃ e', (if e = 0 then (5 : Int) else e) = e' := ⟨_, rfl⟩
    rw [he'] at htk
    have HTK := Lib.hid htk
    have HE := Lib.hid he'
    clear htk ho hr hx he'
    go_enter Try.func56, Try.ntmps56
    go_wp2_with fail
    refine HTK.out.mono ?_
    rintro en w' ⟨rfl, hB2, hg⟩
    have H2 := Lib.hid hB2; have HG := Lib.hid hg
    clear hB2 hg
    go_wp2_with fail
    go_ret
    refine ⟨⟨#[]⟩, Nat.zero_le _, rfl, s, e', H2.out, HG.out, hs, ?_, ?_⟩
    · rw [← HE.out]
      by_cases he : e = 0
      · rw [if_pos he]; exact ⟨by decide, by decide⟩
      · rw [if_neg he]; exact hei
    · rw [← HE.out]
      by_cases he : e = 0
      · rw [if_pos he]
        subst he
        refine .inr (.inl ⟨rfl, ?_, by decide⟩)
        have hl : s.data.toList.length < 2 := by rw [Array.length_toList]; show s.size < 2; omega
        match s.data.toList, hl with
        | [], _ => rfl
        | [_], _ => rfl
        | _ :: _ :: _, h => simp at h; omega
      · rw [if_neg he]
        exact .inr (.inr ⟨he, rfl⟩)
  · obtain rfl : e = 0 := by omega
    have h2 : 2 ≤ s.size := by omega
    obtain ⟨c, d, r, hd⟩ : ∃ c d r, s.data.toList = c :: d :: r := by
      have hl : 2 ≤ s.data.toList.length := by rw [Array.length_toList]; exact h2
      match s.data.toList, hl with
      | c :: d :: r, _ => exact ⟨c, d, r, rfl⟩
    obtain ⟨h0, h1, h3⟩ := take_two hd
    have ho : takeOut s 0 2 = ⟨#[c, d]⟩ := by unfold takeOut; rw [if_pos ⟨rfl, h2⟩, h1]
    have hr : takeRest s 0 2 = s.extract 2 s.size := by unfold takeRest; rw [if_pos ⟨rfl, h2⟩]
    have hx : takeErr s 0 2 = 0 := by unfold takeErr; rw [if_neg (by omega)]
    rw [ho, hr, hx] at htk
    have hok : okS (s.extract 2 s.size) := by
      show (s.extract 2 s.size).data.size ≤ _
      rw [← Array.length_toList, h3]
      have : s.size ≤ 140737488355328 := hs
      omega
    generalize s.extract 2 s.size = s2 at *
    have hc := c.toNat_lt
    have hdd := d.toNat_lt
    have hor := or_bytes c d
    have ht2 : ∀ U, Eye U b s2 0 → Calls Try.prog 99 #[.pointer (some ⟨b, 0, none⟩), .int .i64 (bits BinOp.or IntKind.i64 (IntKind.i64.wrap (IntKind.i64.wrap (((⟨#[c, d]⟩ : ByteArray)[0]'(Nat.zero_lt_succ 1)).toNat : Int) * 256)) (IntKind.i64.wrap (((⟨#[c, d]⟩ : ByteArray)[1]'(Nat.lt_succ_self 1)).toNat : Int)))] U fun en w' => en = .returned (.string (takeOut s2 0 (c.toNat * 256 + d.toNat))) ∧ Eye w' b (takeRest s2 0 (c.toNat * 256 + d.toNat)) (takeErr s2 0 (c.toNat * 256 + d.toNat)) ∧ Grew b U w' (some b) := fun U hU => by
      rw [hor]; exact take_any b s2 0 (c.toNat * 256 + d.toNat) U hok (by omega) hU
    clear hor
    have HT2 := Lib.hid ht2
    have HTK := Lib.hid htk; have HD := Lib.hid hd; have H3 := Lib.hid h3
    clear htk ho hr hx h0 hd h1 h3 hfail h2 ht2
    go_enter Try.func56, Try.ntmps56
    go_wp2_with fail
    refine HTK.out.mono ?_
    rintro en w1 ⟨rfl, hB2, hg⟩
    have HB2 := Lib.hid hB2; have HG := Lib.hid hg
    clear hB2 hg
    go_wp2_with fail
    go_region_held3 (fun _ => True) (exact trivial)
      ((go_at_call 99; (with_reducible refine (HT2.out _ (by first | exact HB2.out | exact HB2.out.drew)).mono ?_); rintro en w2 ⟨rfl, hB4, hg4⟩; have HB4 := Lib.hid hB4; have HG4 := Lib.hid hg4; clear hB4 hg4))
    all_goals
      go_wp2_with fail
      go_ret
      exact text_end HD.out H3.out hok HB4.out (HG.out.trans_ (by first | exact HG4.out | exact HG4.out.drew_))

end Go.Proofs.Ytoejhgbndehaiaa
