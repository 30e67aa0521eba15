/- Texts that belong together: TokTxt, CutPlain, ReadText, TokFirst, TokCut, BackPlain. -/
import Derived.Test.YtjaladhdnbhliaaGreatDoorTokChk
import Derived.Test.YtjaladhdnbhliaaGreatDoorTxts
import Derived.Test.YtjaladhdnbhliaaGreatDoorKindForm
import Derived.Test.YtjaladhdnbhliaaGreatDoorReadPlain
import Derived.Lib.IndexMore
import Derived.Lib.TrimByte
import Derived.Deep.RegionLaw
import Derived.Deep.CutBlock
import Derived.Handy
/- Tokens as texts. Plain facts. -/
namespace Go.Proofs.YtjaladhdnbhliaaGreatDoor
open Go.RowKit

/-- Texts with a blank between. -/
def spaced (l : List ByteArray) : ByteArray := ⟨(Lib.join (l.map (·.data.toList)) [32]).toArray⟩
theorem spaced_nil : spaced [] = ⟨#[]⟩ := rfl
theorem spaced_one (x : ByteArray) : spaced [x] = x := ba_ext (by simp [spaced, Lib.join_one])
theorem spaced_snoc {l : List ByteArray} (x : ByteArray) (h : l ≠ []) : spaced (l ++ [x]) = spaced l ++ ⟨#[32]⟩ ++ x := by
  refine ba_ext ?_
  have h2 : l.map (·.data.toList) ≠ [] := fun e => h (List.map_eq_nil_iff.1 e)
  simp only [spaced, ba_app, List.map_append, List.map_singleton, join_snoc _ _ _ h2, List.append_assoc]
theorem spaced_first {l : List ByteArray} {x : ByteArray} (h : l[0]? = some x) : spaced (l.take 1) = x := by
  cases l with
  | nil => cases h
  | cons y r => simp at h; subst h; exact spaced_one y
theorem spaced_take {l : List ByteArray} {k : Nat} {x : ByteArray} (h : l[k]? = some x) (h0 : 0 < k) : spaced (l.take (k + 1)) = spaced (l.take k) ++ ⟨#[32]⟩ ++ x := by
  rw [take_snoc h]
  refine spaced_snoc x fun e => ?_
  have := (List.getElem?_eq_some_iff.1 h).1
  have h2 := congrArg List.length e
  rw [List.length_take, List.length_nil] at h2
  omega
theorem spaceTail_size {c : Nat} : ∀ r : List ByteArray, (∀ x ∈ r, x.size ≤ c) → (Lib.joinTail [32] (r.map (·.data.toList))).length ≤ r.length * (c + 1)
  | [], _ => by simp [Lib.joinTail]
  | x :: r, h => by
    have h1 := spaceTail_size r (fun y hy => h y (by simp [hy]))
    have h2 := h x (by simp)
    rw [ba_size] at h2
    simp only [Lib.joinTail, List.map_cons, List.flatten_cons, List.length_append, List.length_cons, List.length_nil] at h1 ⊢
    rw [Nat.succ_mul]
    omega
theorem spaced_size {c : Nat} (l : List ByteArray) (h : ∀ x ∈ l, x.size ≤ c) : (spaced l).size ≤ l.length * (c + 1) := by
  cases l with
  | nil => rw [spaced_nil]; exact Nat.zero_le _
  | cons x r =>
    have h1 := spaceTail_size r (fun y hy => h y (by simp [hy]))
    have h2 := h x (by simp)
    rw [ba_size] at h2
    rw [ba_size, spaced, ba_of, List.map_cons, Lib.join_cons, List.length_append, List.length_cons, Nat.succ_mul]
    omega

def tokTxt (t : Token) : ByteArray := if t.kind = 3 then ⟨#[34]⟩ ++ t.text ++ ⟨#[34]⟩ else t.text
def toksR (l : List Token) : ByteArray × Int := if toksErr l = 0 then (spaced (l.map tokTxt), 0) else (⟨#[]⟩, toksErr l)

theorem wordOk_small {s : ByteArray} (h : wordOk s = true) : s.size ≤ 8 := by
  by_cases h0 : s.size = 0
  · omega
  · rw [wordOk_cons (by omega), Bool.and_eq_true, decide_eq_true_eq] at h
    exact h.1
theorem tok_small {t : Token} (h : tokErr t = 0) : t.text.size ≤ 20 := by
  unfold tokErr at h
  split at h
  · cases h
  · split at h
    · next h2 =>
      unfold tokOk at h2
      split at h2
      · have := wordOk_small h2; omega
      split at h2
      · unfold numOk at h2
        rw [Bool.and_eq_true, decide_eq_true_eq] at h2
        omega
      split at h2
      · exact quoteOk_small h2
      · by_cases h1 : t.text.size = 1
        · omega
        · rw [signOk_many h1] at h2; cases h2
    · cases h
theorem tokTxt_small {t : Token} (h : tokErr t = 0) : (tokTxt t).size ≤ 22 := by
  have h1 := tok_small h
  unfold tokTxt
  split
  · rw [ba_app_size, ba_app_size]
    show 1 + t.text.size + 1 ≤ 22
    omega
  · omega
theorem toks_fine {l : List Token} (h : toksErr l = 0) : l.length ≤ 200 ∧ ∀ t ∈ l, tokErr t = 0 := by
  unfold toksErr at h
  split at h
  · cases h
  · exact ⟨by omega, eachErr_zero h⟩
theorem toksTxt_small {l : List Token} (h : toksErr l = 0) (k : Nat) : (spaced ((l.map tokTxt).take k)).size ≤ 4600 := by
  obtain ⟨h1, h2⟩ := toks_fine h
  refine Nat.le_trans (spaced_size (c := 22) _ fun x hx => ?_) ?_
  · obtain ⟨t, ht, rfl⟩ := List.mem_map.1 (List.mem_of_mem_take hx)
    exact tokTxt_small (h2 t ht)
  · have : ((l.map tokTxt).take k).length ≤ 200 := by rw [List.length_take, List.length_map]; omega
    omega

end Go.Proofs.YtjaladhdnbhliaaGreatDoor

/- Lines, cut into tokens. Plain facts. -/
namespace Go.Proofs.YtjaladhdnbhliaaGreatDoor
open Go.RowKit

def wdB (c : UInt8) : Bool := smallB c || digitB c
def notQ (c : UInt8) : Bool := !(c == 34)
def trimL (l : List UInt8) : List UInt8 := l.dropWhile (· == 32)
/-- The first token of a text that does not begin with a blank; what is left; may it be? -/
def tokFirst : List UInt8 → Token × List UInt8 × Bool
  | [] => (⟨4, ⟨#[]⟩⟩, [], false)
  | c :: r =>
    if c = 34 then (⟨3, lit (r.takeWhile notQ)⟩, (r.dropWhile notQ).drop 1, !(r.dropWhile notQ).isEmpty && quoteOk (lit (r.takeWhile notQ)))
    else if smallB c = true then (⟨1, lit ((c :: r).takeWhile wdB)⟩, (c :: r).dropWhile wdB, wordOk (lit ((c :: r).takeWhile wdB)))
    else if digitB c = true then (⟨2, lit ((c :: r).takeWhile wdB)⟩, (c :: r).dropWhile wdB, numOk (lit ((c :: r).takeWhile wdB)))
    else (⟨4, lit [c]⟩, r, signOk (lit [c]))
theorem first_quote (r : List UInt8) : tokFirst (34 :: r) = (⟨3, lit (r.takeWhile notQ)⟩, (r.dropWhile notQ).drop 1, !(r.dropWhile notQ).isEmpty && quoteOk (lit (r.takeWhile notQ))) := by unfold tokFirst; dsimp only; rw [if_pos rfl]
theorem first_small {c : UInt8} (r : List UInt8) (h : c ≠ 34) (hs : smallB c = true) : tokFirst (c :: r) = (⟨1, lit ((c :: r).takeWhile wdB)⟩, (c :: r).dropWhile wdB, wordOk (lit ((c :: r).takeWhile wdB))) := by unfold tokFirst; dsimp only; rw [if_neg h, if_pos hs]
theorem first_digit {c : UInt8} (r : List UInt8) (h : c ≠ 34) (hs : smallB c = false) (hd : digitB c = true) : tokFirst (c :: r) = (⟨2, lit ((c :: r).takeWhile wdB)⟩, (c :: r).dropWhile wdB, numOk (lit ((c :: r).takeWhile wdB))) := by unfold tokFirst; dsimp only; rw [if_neg h, if_neg (by simp [hs]), if_pos hd]
theorem first_sign {c : UInt8} (r : List UInt8) (h : c ≠ 34) (hs : smallB c = false) (hd : digitB c = false) : tokFirst (c :: r) = (⟨4, lit [c]⟩, r, signOk (lit [c])) := by unfold tokFirst; dsimp only; rw [if_neg h, if_neg (by simp [hs]), if_neg (by simp [hd])]
def cutT : Nat → List UInt8 → Option (List Token)
  | _, [] => some []
  | 0, _ :: _ => none
  | n + 1, c :: r => if (tokFirst (c :: r)).2.2 = true then (cutT n (trimL (tokFirst (c :: r)).2.1)).map ((tokFirst (c :: r)).1 :: ·) else none
/-- The tokens of a text that does not begin with a blank. -/
def cutL (l : List UInt8) : Option (List Token) := cutT (l.length + 1) l
def cutR (s : ByteArray) : List Token × Int := if 1500 < s.size then ([], 1) else match cutL (trimL s.data.toList) with
  | none => ([], 4)
  | some L => if 200 < L.length then ([], 1) else (L, 0)

theorem drop_le {p : UInt8 → Bool} (l : List UInt8) : (l.dropWhile p).length ≤ l.length := (List.dropWhile_sublist p).length_le
theorem trim_le (l : List UInt8) : (trimL l).length ≤ l.length := drop_le l
theorem first_less (c : UInt8) (r : List UInt8) : (tokFirst (c :: r)).2.1.length < (c :: r).length := by
  have h1 := drop_le (p := notQ) r
  have h2 := drop_le (p := wdB) r
  by_cases hq : c = 34
  · subst hq
    rw [first_quote]
    show ((r.dropWhile notQ).drop 1).length < _
    rw [List.length_drop, List.length_cons]; omega
  cases hs : smallB c with
  | true =>
    rw [first_small r hq hs]
    show ((c :: r).dropWhile wdB).length < _
    rw [List.dropWhile_cons_of_pos (by unfold wdB; simp [hs]), List.length_cons]; omega
  | false =>
    cases hd : digitB c with
    | true =>
      rw [first_digit r hq hs hd]
      show ((c :: r).dropWhile wdB).length < _
      rw [List.dropWhile_cons_of_pos (by unfold wdB; simp [hd]), List.length_cons]; omega
    | false =>
      rw [first_sign r hq hs hd]
      show r.length < _
      rw [List.length_cons]; omega
theorem cutT_fuel : ∀ (n m : Nat) (l : List UInt8), l.length < n → l.length < m → cutT n l = cutT m l
  | 0, _, _, h, _ => by omega
  | _ + 1, 0, _, _, h => by omega
  | n + 1, m + 1, [], _, _ => by unfold cutT; rfl
  | n + 1, m + 1, c :: r, h1, h2 => by
    have h3 := first_less c r
    have h4 := trim_le (tokFirst (c :: r)).2.1
    unfold cutT
    rw [cutT_fuel n m _ (by omega) (by omega)]
theorem cutL_nil : cutL [] = some [] := rfl
theorem cutL_step (c : UInt8) (r : List UInt8) : cutL (c :: r) = if (tokFirst (c :: r)).2.2 = true then (cutL (trimL (tokFirst (c :: r)).2.1)).map ((tokFirst (c :: r)).1 :: ·) else none := by
  have h3 := first_less c r
  have h4 := trim_le (tokFirst (c :: r)).2.1
  unfold cutL
  conv => lhs; unfold cutT
  rw [cutT_fuel (c :: r).length ((trimL (tokFirst (c :: r)).2.1).length + 1) _ (by omega) (by omega)]
theorem trim_blank (r : List UInt8) : trimL (32 :: r) = trimL r := by unfold trimL; rw [List.dropWhile_cons_of_pos (by simp)]
theorem trim_other {c : UInt8} (h : c ≠ 32) (r : List UInt8) : trimL (c :: r) = c :: r := by unfold trimL; rw [List.dropWhile_cons_of_neg (by simp [h])]
theorem trim_head {l : List UInt8} {c : UInt8} {r : List UInt8} (h : trimL l = c :: r) : c ≠ 32 := by
  intro e
  subst e
  have h1 := List.head_dropWhile_not (p := (· == (32 : UInt8))) (w := by show trimL l ≠ []; rw [h]; simp)
  have h2 : (trimL l).head (by rw [h]; simp) = 32 := by simp [h]
  unfold trimL at h2
  rw [h2] at h1
  simp at h1

/-- strings.Cut at one byte. -/
theorem index_byte (c : UInt8) : ∀ l : List UInt8, Lib.index l [c] = if (l.dropWhile (fun b => !(b == c))).isEmpty = true then -1 else ((l.takeWhile (fun b => !(b == c))).length : Int)
  | [] => rfl
  | b :: l => by
    have ih := index_byte c l
    by_cases h : b = c
    · subst h
      rw [List.dropWhile_cons_of_neg (by simp), List.takeWhile_cons_of_neg (by simp)]
      unfold Lib.index
      simp
    · rw [List.dropWhile_cons_of_pos (by simp [h]), List.takeWhile_cons_of_pos (by simp [h])]
      unfold Lib.index
      rw [ih, if_neg (by simp; exact fun e => h e.symm)]
      by_cases h2 : (l.dropWhile (fun b => !(b == c))).isEmpty = true
      · rw [if_pos h2, if_pos h2, if_pos (by simp)]
      · rw [if_neg h2, if_neg h2, if_neg (by simp), List.length_cons]
        omega
theorem cut_quote (l : List UInt8) : Lib.cut l [34] = (l.takeWhile notQ, (l.dropWhile notQ).drop 1, !(l.dropWhile notQ).isEmpty) := by
  have h := index_byte 34 l
  have ht : l.takeWhile notQ ++ l.dropWhile notQ = l := List.takeWhile_append_dropWhile
  rw [show (fun b : UInt8 => !(b == 34)) = notQ from rfl] at h
  unfold Lib.cut
  by_cases he : (l.dropWhile notQ).isEmpty = true
  · rw [if_pos he] at h
    rw [h, if_neg (by omega), he]
    have hn : l.dropWhile notQ = [] := List.isEmpty_iff.1 he
    rw [hn, List.append_nil] at ht
    rw [hn, ht]; rfl
  · rw [if_neg he] at h
    rw [h, if_pos (by omega)]
    have h1 : l.take (l.takeWhile notQ).length = l.takeWhile notQ := by
      conv => lhs; arg 2; rw [← ht]
      rw [List.take_left']
      rfl
    have h2 : l.drop (l.takeWhile notQ).length = l.dropWhile notQ := by
      conv => lhs; arg 2; rw [← ht]
      rw [List.drop_left']
      rfl
    rw [Int.toNat_natCast, h1, show ([34] : List UInt8).length = 1 from rfl, ← List.drop_drop, h2]
    simp [he]

theorem lit_back (s : ByteArray) : lit s.data.toList = s := by unfold lit; exact ba_back s
theorem lit_list (l : List UInt8) : (lit l).data.toList = l := by unfold lit; exact ba_of l
theorem ext_lit (s : ByteArray) (i j : Nat) : s.extract i j = lit ((s.data.toList.drop i).take (j - i)) := ba_ext (by rw [ba_extract, lit_list])

end Go.Proofs.YtjaladhdnbhliaaGreatDoor

/- A text's lines; what a text tells, as a module. Plain facts. -/
namespace Go.Proofs.YtjaladhdnbhliaaGreatDoor
open Go.RowKit

def noMod : Module := ⟨[], [], []⟩
/-- The lines of a text. -/
def linesOf : List UInt8 → List (List UInt8)
  | [] => [[]]
  | c :: r => if c = 10 then [] :: linesOf r else match linesOf r with
    | [] => [[c]]
    | x :: t => (c :: x) :: t
/-- A line's text. -/
def lineT (m : Module) (s : ByteArray) : Except Int Module := if (cutR s).2 ≠ 0 then .error (cutR s).2 else lineR m (cutR s).1
/-- Lines, one behind the other. -/
def parseL (m : Module) : List (List UInt8) → Except Int Module
  | [] => .ok m
  | x :: r => match lineT m (lit x) with
    | .error e => .error e
    | .ok m' => parseL m' r
/-- What a text tells. -/
def readR (s : ByteArray) : Module × Int :=
  if 1500 < s.size then (noMod, 1)
  else match parseL noMod (linesOf s.data.toList) with
    | .error e => (noMod, e)
    | .ok m => if modErr m ≠ 0 then (noMod, modErr m) else (m, 0)

theorem linesOf_cons (c : UInt8) (r : List UInt8) : linesOf (c :: r) = if c = 10 then [] :: linesOf r else match linesOf r with
    | [] => [[c]]
    | x :: t => (c :: x) :: t := rfl
def notNl (c : UInt8) : Bool := !(c == 10)
theorem lines_ne (l : List UInt8) : linesOf l ≠ [] := by
  cases l with
  | nil => simp [linesOf]
  | cons c r =>
    rw [linesOf_cons]
    by_cases h : c = 10
    · rw [if_pos h]; simp
    · rw [if_neg h]; cases linesOf r <;> simp
theorem lines_none {l : List UInt8} (h : l.all notNl = true) : linesOf l = [l] := by
  induction l with
  | nil => rfl
  | cons c r ih =>
    rw [List.all_cons, Bool.and_eq_true] at h
    have hc : c ≠ 10 := fun e => by subst e; simp [notNl] at h
    rw [linesOf_cons, if_neg hc, ih h.2]
theorem lines_split {a b : List UInt8} (h : a.all notNl = true) : linesOf (a ++ 10 :: b) = a :: linesOf b := by
  induction a with
  | nil => show linesOf (10 :: b) = _; rw [linesOf_cons, if_pos rfl]
  | cons c r ih =>
    rw [List.all_cons, Bool.and_eq_true] at h
    have hc : c ≠ 10 := fun e => by subst e; simp [notNl] at h
    show linesOf (c :: (r ++ 10 :: b)) = _
    rw [linesOf_cons, if_neg hc, ih h.2]
theorem parseL_ok {m m' : Module} {x : List UInt8} {r : List (List UInt8)} (h : lineT m (lit x) = .ok m') : parseL m (x :: r) = parseL m' r := by
  conv => lhs; unfold parseL
  rw [h]
theorem parseL_no {m : Module} {x : List UInt8} {r : List (List UInt8)} {e : Int} (h : lineT m (lit x) = .error e) : parseL m (x :: r) = .error e := by
  unfold parseL
  rw [h]
theorem read_long {s : ByteArray} (h : 1500 < s.size) : readR s = (noMod, 1) := by unfold readR; rw [if_pos h]
theorem read_bad {s : ByteArray} {e : Int} (h : s.size ≤ 1500) (hp : parseL noMod (linesOf s.data.toList) = .error e) : readR s = (noMod, e) := by unfold readR; rw [if_neg (by omega), hp]
theorem read_fault {s : ByteArray} {m : Module} (h : s.size ≤ 1500) (hp : parseL noMod (linesOf s.data.toList) = .ok m) (hm : modErr m ≠ 0) : readR s = (noMod, modErr m) := by unfold readR; rw [if_neg (by omega), hp]; simp only; rw [if_pos hm]
theorem read_ok {s : ByteArray} {m : Module} (h : s.size ≤ 1500) (hp : parseL noMod (linesOf s.data.toList) = .ok m) (hm : modErr m = 0) : readR s = (m, 0) := by unfold readR; rw [if_neg (by omega), hp]; simp only; rw [if_neg (by simp [hm])]

end Go.Proofs.YtjaladhdnbhliaaGreatDoor

/- The first token of a line: token.first. -/
namespace Go.Proofs.YtjaladhdnbhliaaGreatDoor
open Go.RowKit Go.Shelf

theorem while_of {p : UInt8 → Bool} {l : List UInt8} {k : Nat} (hk : k ≤ l.length) (hp : ∀ j, j < k → ∀ x, l[j]? = some x → p x = true) (he : k = l.length ∨ ∃ x, l[k]? = some x ∧ p x = false) : l.takeWhile p = l.take k ∧ l.dropWhile p = l.drop k := by
  induction l generalizing k with
  | nil => simp
  | cons a r ih =>
    cases k with
    | zero =>
      rcases he with h | ⟨x, h1, h2⟩
      · cases h
      · simp only [List.getElem?_cons_zero, Option.some.injEq] at h1
        subst h1
        rw [List.takeWhile_cons_of_neg (by simp [h2]), List.dropWhile_cons_of_neg (by simp [h2])]
        exact ⟨rfl, rfl⟩
    | succ k =>
      have ha : p a = true := hp 0 (by omega) a rfl
      obtain ⟨h1, h2⟩ := ih (k := k) (by simpa using hk) (fun j hj x hx => hp (j + 1) (by omega) x (by simpa using hx)) (by
        rcases he with h | ⟨x, h1, h2⟩
        · left; simpa using h
        · right; exact ⟨x, by simpa using h1, h2⟩)
      rw [List.takeWhile_cons_of_pos ha, List.dropWhile_cons_of_pos ha, h1, h2]
      exact ⟨rfl, rfl⟩

theorem cutOne_any (s : ByteArray) (w : World) (mx : Int) (hs : s.size ≤ 1500) (hM : w.cell? ⟨1, 0, none⟩ = some (.int .i64 mx)) :
    Calls Tryz.prog 193 #[.string s, .string ⟨#[34]⟩] w fun e w' => e = .returned (.tuple #[.string (lit (s.data.toList.takeWhile notQ)), .string (lit ((s.data.toList.dropWhile notQ).drop 1)), .bool (!(s.data.toList.dropWhile notQ).isEmpty)]) ∧ Below w.heap.size w w' :=
  (Tryz.strings_Cut s ⟨#[34]⟩ mx w (by omega) hM).mono fun e w' ⟨he, n, hw⟩ => ⟨by
    rw [he, show (⟨#[34]⟩ : ByteArray).data.toList = [34] from rfl, cut_quote]; rfl, by subst hw; exact below_drewN (Below.refl _ _) n⟩

set_option maxRecDepth 100000 in
set_option maxHeartbeats 4000000 in
theorem tokFirst_any (s : ByteArray) (c : UInt8) (r : List UInt8) (w : World) (mx : Int) (hs : s.size ≤ 1500) (hl : s.data.toList = c :: r) (hT : Tabs w mx) :
    Calls Tryz.prog 122 #[.string s] w fun e w' => e = .returned (.tuple #[.agg #[.int .i64 (tokFirst (c :: r)).1.kind, .string (tokFirst (c :: r)).1.text], .string (lit (tokFirst (c :: r)).2.1), .bool (tokFirst (c :: r)).2.2]) ∧ Below w.heap.size w w' := by
  have hsz : s.size = r.length + 1 := by rw [ba_size, hl]; rfl
  have h0 : 0 < s.size := by omega
  have h0z : (0 : Int) < (s.size : Int) := by omega
  have h1z : (1 : Int) ≤ (s.size : Int) := by omega
  have hcx : s[0] = c := by
    have h := str_at? s 0 h0
    rw [hl] at h
    injection h with h
    exact h.symm
  have hb : (s[0].toNat : Int) < 256 := by have := s[0].toNat_lt; omega
  have hx1 : s.extract 1 s.size = lit r := by rw [ext_lit, hl]; show lit (r.take (s.size - 1)) = _; rw [List.take_of_length_le (by omega)]
  have hx0 : s.extract 0 1 = lit [c] := by rw [ext_lit, hl]; rfl
  obtain ⟨E, hE⟩ : ∃ z, tokFirst (c :: r) = z := ⟨_, rfl⟩
  rw [hE]
  obtain ⟨⟨K, TX⟩, RL, OK⟩ := E
  dsimp only
  have hsml : ∀ U : World, Calls Tryz.prog 180 #[.int .u8 s[0].toNat] U fun e w' => e = .returned (.bool (smallB c)) ∧ U = w' := fun U => by have h := small_any s[0] U; rw [hcx] at h ⊢; exact h
  have HE := Lib.hid hE; have HL := Lib.hid hl; have HCX := Lib.hid hcx; have HSZ := Lib.hid hsz; have HX1 := Lib.hid hx1; have HX0 := Lib.hid hx0; have HT := Lib.hid hT; have HSML := Lib.hid hsml
  clear hE hl hcx hsz hx1 hx0 hT hsml
  go_enter Tryz.func122, Tryz.ntmps122
  go_upto_region 1 with fail
  have hBb := Box.made w 182 #[.int .i64 0, .string ⟨#[]⟩]
  have hbb : Below w.heap.size w (w.alloc (.cells #[.int .i64 0, .string ⟨#[]⟩] 182)) := by go_grown
  have hzb : (w.alloc (.cells #[.int .i64 0, .string ⟨#[]⟩] 182)).heap.size = w.heap.size + 1 := by simp
  generalize w.alloc (.cells #[.int .i64 0, .string ⟨#[]⟩] 182) = W1 at hBb hbb hzb ⊢
  have hT1 := HT.out.later hbb
  have HB := Lib.hid hBb; have Hb := Lib.hid hbb; have HT1 := Lib.hid hT1
  clear hBb hbb hT1
  clear hzb
  by_cases hq : c = 34
  · subst hq
    have hez := HE.out.symm.trans (first_quote r)
    have hq1 : ((s[0].toNat : Int) == 34) = true := by rw [HCX.out]; rfl
    have hcut := cutOne_any (lit r) W1 mx (by rw [lit_size]; have := HSZ.out; omega) HT1.out.max
    rw [lit_list, ← HX1.out] at hcut
    have hqs := fun U => quotable_any (lit (r.takeWhile notQ)) U (by rw [lit_size]; have h1 := (List.takeWhile_sublist notQ (l := r)).length_le; have := HSZ.out; omega)
    obtain ⟨B, hB⟩ : ∃ z, lit (r.takeWhile notQ) = z := ⟨_, rfl⟩
    rw [hB] at hcut hez hqs
    obtain ⟨RQ, hRQ⟩ : ∃ z, (r.dropWhile notQ).drop 1 = z := ⟨_, rfl⟩
    rw [hRQ] at hcut hez
    obtain ⟨zq, hzq⟩ : ∃ z, quoteOk B = z := ⟨_, rfl⟩
    rw [hzq] at hez hqs
    obtain ⟨z, hz⟩ : ∃ z, (!(r.dropWhile notQ).isEmpty) = z := ⟨_, rfl⟩
    rw [hz] at hcut hez
    simp only [Prod.mk.injEq, Token.mk.injEq] at hez
    obtain ⟨⟨rfl, rfl⟩, rfl, rfl⟩ := hez
    have HCUT := Lib.hid hcut; have HQS := Lib.hid hqs
    clear hcut hqs
    clear hB hRQ hzq hz
    go_wp2_with fail
    refine HCUT.out.mono ?_
    rintro e W2 ⟨rfl, hb2⟩
    have hB2 := HB.out.later hb2 HB.out.lt
    have hbw := below_step Hb.out hb2
    have HB2 := Lib.hid hB2; have HBW := Lib.hid hbw
    clear hB2 hbw
    clear hb2
    cases z with
    | false =>
      have hB3 := HB2.out
      have hlt := hB3.lt
      have x0 := hB3.at_ 0 _ rfl
      have x1 := hB3.at_ 1 _ rfl
      have f0 := hB3.free 0
      have f1 := hB3.free 1
      clear hB3
      go_wp2_with fail
      exact bodyPost_ret (v := .tuple #[.agg #[.int .i64 3, .string TX], .string (lit RL), .bool false]) (by simp [results, Tryz.results122, go_sem, x0, x1]) rfl ⟨rfl, (HBW.out.setCell (p := ⟨w.heap.size, 0, none⟩) (Nat.le_refl _) _).setCell (p := ⟨w.heap.size, 1, none⟩) (Nat.le_refl _) _⟩
    | true =>
      go_wp2_with fail
      refine (HQS.out _).mono ?_
      rintro e W3 ⟨rfl, hb3⟩
      have hB3 := HB2.out.later hb3 HB2.out.lt
      have hbw := below_step HBW.out hb3
      have hlt := hB3.lt
      have x0 := hB3.at_ 0 _ rfl
      have x1 := hB3.at_ 1 _ rfl
      have f0 := hB3.free 0
      have f1 := hB3.free 1
      have HBW3 := Lib.hid hbw
      clear hbw
      clear hB3 hb3
      go_wp2_with fail
      exact bodyPost_ret (v := .tuple #[.agg #[.int .i64 3, .string TX], .string (lit RL), .bool zq]) (by simp [results, Tryz.results122, go_sem, x0, x1]) rfl ⟨by simp, (HBW3.out.setCell (p := ⟨w.heap.size, 0, none⟩) (Nat.le_refl _) _).setCell (p := ⟨w.heap.size, 1, none⟩) (Nat.le_refl _) _⟩
  · have hq1 : ((s[0].toNat : Int) == 34) = false := by
      rw [HCX.out, beq_eq_false_iff_ne]
      intro e
      exact hq (UInt8.toNat_inj.1 (by have h2 : (34 : UInt8).toNat = 34 := rfl; omega))
    go_upto_block 0 with fail
    go_cut [8] (fun s8 wc => ∃ kk : Nat, kk ≤ s.size ∧ s8 = .int .i64 kk ∧ wc = W1 ∧ Aside ((c :: r).takeWhile wdB = (c :: r).take kk ∧ (c :: r).dropWhile wdB = (c :: r).drop kk) ∧ Aside (kk = 0 → wdB c = false) ∧ Aside (0 < kk → wdB c = true))
    case first =>
      go_wp2_with fail
      go_loopg [8] s.size (fun gg s8 wr => ∃ kk : Nat, kk ≤ s.size ∧ s.size - kk ≤ gg ∧ s8 = .int .i64 kk ∧ wr = W1 ∧ Aside (∀ j, j < kk → ∀ x, (c :: r)[j]? = some x → wdB x = true))
      case atStart => exact ⟨0, Nat.zero_le _, by omega, rfl, rfl, aside (fun j hj => absurd hj (Nat.not_lt_zero _))⟩
      case round =>
        obtain ⟨kk, hkk, hg, rfl, rfl, A1⟩ := hrel
        by_cases hlt : kk < s.size
        · have hltz : (kk : Int) < (s.size : Int) := by omega
          have hb' : (s[kk].toNat : Int) < 256 := by have := s[kk].toNat_lt; omega
          have hx := str_at? s kk hlt
          rw [HL.out] at hx
          have hsm := fun U => small_any s[kk] U
          have hdg := fun U => digit_any s[kk] U
          obtain ⟨zs, hzs⟩ : ∃ z, smallB s[kk] = z := ⟨_, rfl⟩
          obtain ⟨zd, hzd⟩ : ∃ z, digitB s[kk] = z := ⟨_, rfl⟩
          have hwd : wdB s[kk] = (zs || zd) := by unfold wdB; rw [hzs, hzd]
          rw [hzs] at hsm
          rw [hzd] at hdg
          have HX := Lib.hid hx; have HSM := Lib.hid hsm; have HDG := Lib.hid hdg; have HWD := Lib.hid hwd
          clear hx hsm hdg hwd
          clear hzs hzd
          by_cases hzz : (zs || zd) = true
          · have hgo : ∀ j, j < kk + 1 → ∀ x, (c :: r)[j]? = some x → wdB x = true := by
              intro j hj x hx
              by_cases e : j = kk
              · subst e; rw [HX.out] at hx; injection hx with hx; rw [← hx, HWD.out]; exact hzz
              · exact A1.out j (by omega) x hx
            have HGO := Lib.hid hgo
            clear hgo
            cases zs with
            | true =>
              clear hzz
              go_wp2_with (first
                | (go_at_call 180; (with_reducible refine (HSM.out _).mono ?_); rintro e w' ⟨rfl, rfl⟩)
                | (go_at_call 183; (with_reducible refine (HDG.out _).mono ?_); rintro e w' ⟨rfl, rfl⟩))
              go_roundg (s.size - (kk + 1))
              case measure => omega
              case rel => exact ⟨kk + 1, by omega, by omega, by go_num, rfl, aside HGO.out⟩
            | false =>
              cases zd with
              | false => cases hzz
              | true =>
                clear hzz
                go_wp2_with (first
                  | (go_at_call 180; (with_reducible refine (HSM.out _).mono ?_); rintro e w' ⟨rfl, rfl⟩)
                  | (go_at_call 183; (with_reducible refine (HDG.out _).mono ?_); rintro e w' ⟨rfl, rfl⟩))
                go_roundg (s.size - (kk + 1))
                case measure => omega
                case rel => exact ⟨kk + 1, by omega, by omega, by go_num, rfl, aside HGO.out⟩
          · obtain ⟨rfl, rfl⟩ : zs = false ∧ zd = false := by simpa using hzz
            have hw := while_of (p := wdB) (l := c :: r) (k := kk) (by rw [List.length_cons]; have := HSZ.out; omega) A1.out (.inr ⟨_, HX.out, HWD.out⟩)
            have hw0 : kk = 0 → wdB c = false := fun e => by subst e; have h := HWD.out; rw [HCX.out] at h; exact h
            have hw1 : 0 < kk → wdB c = true := fun e => A1.out 0 e c rfl
            have HW := Lib.hid hw; have HW0 := Lib.hid hw0; have HW1 := Lib.hid hw1
            clear hw hw0 hw1
            clear hzz
            go_wp2_with (first
                | (go_at_call 180; (with_reducible refine (HSM.out _).mono ?_); rintro e w' ⟨rfl, rfl⟩)
                | (go_at_call 183; (with_reducible refine (HDG.out _).mono ?_); rintro e w' ⟨rfl, rfl⟩))
            go_meet
            exact ⟨kk, hkk, rfl, rfl, aside HW.out, aside HW0.out, aside HW1.out⟩
        · have hltz : ¬ (kk : Int) < (s.size : Int) := by omega
          obtain rfl : kk = s.size := by omega
          have hw := while_of (p := wdB) (l := c :: r) (k := s.size) (by rw [List.length_cons]; have := HSZ.out; omega) A1.out (.inl (by rw [List.length_cons]; exact HSZ.out))
          have hw0 : s.size = 0 → wdB c = false := fun e => by omega
          have hw1 : 0 < s.size → wdB c = true := fun e => A1.out 0 e c rfl
          have HW := Lib.hid hw; have HW0 := Lib.hid hw0; have HW1 := Lib.hid hw1
          clear hw hw0 hw1
          go_wp2_with fail
          go_meet
          exact ⟨s.size, hkk, rfl, rfl, aside HW.out, aside HW0.out, aside HW1.out⟩
    case rest =>
    obtain ⟨kk, hkk, rfl, rfl, HW, HW0, HW1⟩ := hcut
    have hkkz : (kk : Int) ≤ (s.size : Int) := by omega
    obtain ⟨zs, hzs⟩ : ∃ z, smallB c = z := ⟨_, rfl⟩
    obtain ⟨zd, hzd⟩ : ∃ z, digitB c = z := ⟨_, rfl⟩
    have hwd : wdB c = (zs || zd) := by unfold wdB; rw [hzs, hzd]
    have hsml := HSML.out
    rw [hzs] at hsml
    have HSM := Lib.hid hsml; have HZS := Lib.hid hzs; have HZD := Lib.hid hzd
    clear hsml hzs hzd
    clear HSML
    by_cases hk0 : kk = 0
    · subst hk0
      have hw0 := HW0.out (by first | rfl | trivial)
      rw [hwd] at hw0
      obtain ⟨rfl, rfl⟩ : zs = false ∧ zd = false := by simpa using hw0
      have hez := HE.out.symm.trans (first_sign r hq HZS.out HZD.out)
      have hcs := fun U => containsSign_any c U
      rw [show (⟨#[c]⟩ : ByteArray) = lit [c] from rfl, ← HX0.out] at hcs
      rw [← HX0.out] at hez
      obtain ⟨zq, hzq⟩ : ∃ z, signOk (s.extract 0 1) = z := ⟨_, rfl⟩
      rw [hzq] at hez hcs
      simp only [Prod.mk.injEq, Token.mk.injEq] at hez
      obtain ⟨⟨rfl, rfl⟩, rfl, rfl⟩ := hez
      have HCS := Lib.hid hcs
      clear hcs
      clear hw0 hzq hwd
      go_wp2_with fail
      have hB1 := HB.out
      have hlt := hB1.lt
      have x0 := hB1.at_ 0 _ rfl
      have x1 := hB1.at_ 1 _ rfl
      have f0 := hB1.free 0
      have f1 := hB1.free 1
      clear hB1
      go_region_law ((go_simp; go_at_call 114; (with_reducible refine (HCS.out _).mono ?_); rintro e w7 ⟨rfl, rfl⟩))
      all_goals
        (try go_wp2_with fail)
        exact bodyPost_ret (v := .tuple #[.agg #[.int .i64 4, .string (s.extract 0 1)], .string (lit RL), .bool OK]) (by simp [results, Tryz.results122, go_sem, x0, x1, HX1.out]) rfl ⟨rfl, by
          first
          | exact (Hb.out.setCell (p := ⟨w.heap.size, 0, none⟩) (Nat.le_refl _) _).setCell (p := ⟨w.heap.size, 1, none⟩) (Nat.le_refl _) _
          | exact (Hb.out.drew.setCell (p := ⟨w.heap.size, 0, none⟩) (Nat.le_refl _) _).setCell (p := ⟨w.heap.size, 1, none⟩) (Nat.le_refl _) _⟩
    have hkp : 0 < kk := by omega
    have hkpz : (0 : Int) < (kk : Int) := by omega
    have hk0z : ((kk : Int) == 0) = false := by simp; omega
    cases zs with
    | true =>
      have hez := HE.out.symm.trans (first_small r hq HZS.out)
      rw [HW.out.1, HW.out.2] at hez
      have hx2 : s.extract 0 kk = lit ((c :: r).take kk) := by rw [ext_lit, HL.out]; rfl
      have hx3 : s.extract kk s.size = lit ((c :: r).drop kk) := by rw [ext_lit, HL.out, List.take_of_length_le (by rw [List.length_drop, List.length_cons]; have := HSZ.out; omega)]
      have hwo := fun U (hU : Below w.heap.size w U) => word_any (lit ((c :: r).take kk)) U (by rw [lit_size, List.length_take, List.length_cons]; have := HSZ.out; omega)
      rw [← hx2] at hez hwo
      obtain ⟨zq, hzq⟩ : ∃ z, wordOk (s.extract 0 kk) = z := ⟨_, rfl⟩
      rw [hzq] at hez hwo
      simp only [Prod.mk.injEq, Token.mk.injEq] at hez
      obtain ⟨⟨rfl, rfl⟩, rfl, rfl⟩ := hez
      have HX3 := Lib.hid hx3
      have HWO := Lib.hid hwo
      clear hwo
      clear hx2 hx3 hzq
      go_wp2_with (go_at_call 180; (with_reducible refine (HSM.out _).mono ?_); rintro e w' ⟨rfl, rfl⟩)
      have hB1 := HB.out
      have hlt := hB1.lt
      have x0 := hB1.at_ 0 _ rfl
      have x1 := hB1.at_ 1 _ rfl
      have f0 := hB1.free 0
      have f1 := hB1.free 1
      clear hB1
      go_region_law ((go_simp; go_at_call 112; (with_reducible refine (HWO.out _ (by first | exact Hb.out | exact Hb.out.drew)).mono ?_); rintro e w7 ⟨rfl, hb7⟩; have hB7 := Box.later (B := wc.heap.size) HB.out (by first | exact hb7 | (exact Below.trans (by go_grown) hb7)) HB.out.lt; clear x0 x1 f0 f1; have x0 := hB7.at_ 0 _ rfl; have x1 := hB7.at_ 1 _ rfl; have f0 := hB7.free 0; have f1 := hB7.free 1; have hlt7 := hB7.lt; have hb8 := Hb.out.trans (by first | exact hb7.mono Hb.out.size | exact (Below.trans (by go_grown) hb7).mono Hb.out.size : Below w.heap.size wc w7); have HB8 := Lib.hid hb8; clear hb7 hB7 hb8))
      all_goals
        (try go_wp2_with fail)
        exact bodyPost_ret (v := .tuple #[.agg #[.int .i64 1, .string (s.extract 0 kk)], .string (lit ((c :: r).drop kk)), .bool OK]) (by simp [results, Tryz.results122, go_sem, x0, x1, HX3.out]) rfl ⟨rfl, (HB8.out.setCell (p := ⟨w.heap.size, 0, none⟩) (Nat.le_refl _) _).setCell (p := ⟨w.heap.size, 1, none⟩) (Nat.le_refl _) _⟩
    | false =>
      have hw1 := HW1.out hkp
      rw [hwd] at hw1
      obtain rfl : zd = true := by simpa using hw1
      clear hw1
      have hez := HE.out.symm.trans (first_digit r hq HZS.out HZD.out)
      rw [HW.out.1, HW.out.2] at hez
      have hx2 : s.extract 0 kk = lit ((c :: r).take kk) := by rw [ext_lit, HL.out]; rfl
      have hx3 : s.extract kk s.size = lit ((c :: r).drop kk) := by rw [ext_lit, HL.out, List.take_of_length_le (by rw [List.length_drop, List.length_cons]; have := HSZ.out; omega)]
      have hwo := fun U (hU : Below w.heap.size w U) => number_any (lit ((c :: r).take kk)) U mx (by rw [lit_size, List.length_take, List.length_cons]; have := HSZ.out; omega) (HT.out.later hU)
      rw [← hx2] at hez hwo
      obtain ⟨zq, hzq⟩ : ∃ z, numOk (s.extract 0 kk) = z := ⟨_, rfl⟩
      rw [hzq] at hez hwo
      simp only [Prod.mk.injEq, Token.mk.injEq] at hez
      obtain ⟨⟨rfl, rfl⟩, rfl, rfl⟩ := hez
      have HX3 := Lib.hid hx3
      have HWO := Lib.hid hwo
      clear hwo
      clear hx2 hx3 hzq
      go_wp2_with (go_at_call 180; (with_reducible refine (HSM.out _).mono ?_); rintro e w' ⟨rfl, rfl⟩)
      have hB1 := HB.out
      have hlt := hB1.lt
      have x0 := hB1.at_ 0 _ rfl
      have x1 := hB1.at_ 1 _ rfl
      have f0 := hB1.free 0
      have f1 := hB1.free 1
      clear hB1
      go_region_law ((go_simp; go_at_call 194; (with_reducible refine (HWO.out _ (by first | exact Hb.out | exact Hb.out.drew)).mono ?_); rintro e w7 ⟨rfl, hb7⟩; have hB7 := Box.later (B := wc.heap.size) HB.out (by first | exact hb7 | (exact Below.trans (by go_grown) hb7)) HB.out.lt; clear x0 x1 f0 f1; have x0 := hB7.at_ 0 _ rfl; have x1 := hB7.at_ 1 _ rfl; have f0 := hB7.free 0; have f1 := hB7.free 1; have hlt7 := hB7.lt; have hb8 := Hb.out.trans (by first | exact hb7.mono Hb.out.size | exact (Below.trans (by go_grown) hb7).mono Hb.out.size : Below w.heap.size wc w7); have HB8 := Lib.hid hb8; clear hb7 hB7 hb8))
      all_goals
        (try go_wp2_with fail)
        exact bodyPost_ret (v := .tuple #[.agg #[.int .i64 2, .string (s.extract 0 kk)], .string (lit ((c :: r).drop kk)), .bool OK]) (by simp [results, Tryz.results122, go_sem, x0, x1, HX3.out]) rfl ⟨rfl, (HB8.out.setCell (p := ⟨w.heap.size, 0, none⟩) (Nat.le_refl _) _).setCell (p := ⟨w.heap.size, 1, none⟩) (Nat.le_refl _) _⟩

end Go.Proofs.YtjaladhdnbhliaaGreatDoor

/- Lines, cut into tokens: token.Cut. -/
namespace Go.Proofs.YtjaladhdnbhliaaGreatDoor
open Go.RowKit Go.Shelf

theorem first_ok (c : UInt8) (r : List UInt8) : I64 (tokFirst (c :: r)).1.kind ∧ (tokFirst (c :: r)).1.text.size ≤ (c :: r).length := by
  have i : ∀ n : Int, 1 ≤ n → n ≤ 4 → I64 n := fun n h1 h2 => ⟨by omega, by omega⟩
  have ht := (List.takeWhile_sublist wdB (l := c :: r)).length_le
  by_cases hq : c = 34
  · subst hq
    rw [first_quote]
    have := (List.takeWhile_sublist notQ (l := r)).length_le
    exact ⟨i 3 (by decide) (by decide), by show (lit _).size ≤ _; rw [lit_size, List.length_cons]; omega⟩
  cases hs : smallB c with
  | true =>
    rw [first_small r hq hs]
    exact ⟨i 1 (by decide) (by decide), by show (lit _).size ≤ _; rw [lit_size]; exact ht⟩
  | false =>
    cases hd : digitB c with
    | true =>
      rw [first_digit r hq hs hd]
      exact ⟨i 2 (by decide) (by decide), by show (lit _).size ≤ _; rw [lit_size]; exact ht⟩
    | false =>
      rw [first_sign r hq hs hd]
      exact ⟨i 4 (by decide) (by decide), by show (lit [c]).size ≤ _; rw [lit_size]; simp⟩

theorem trimLeft_any (s : ByteArray) (w : World) : Calls Tryz.prog 121 #[.string s, .string ⟨#[32]⟩] w fun e w' => e = .returned (.string (lit (trimL s.data.toList))) ∧ w = w' :=
  (Tryz.strings_TrimLeft_one s 32 (by decide) w).mono fun e w' ⟨he, hw⟩ => ⟨he, hw.symm⟩

theorem tok_cells {d : Token} : ∀ u ∈ [Value.int .i64 d.kind, .string d.text], u.oneCell' = true := by
  intro u hu
  simp only [List.mem_cons, List.not_mem_nil, or_false] at hu
  rcases hu with rfl | rfl <;> rfl

theorem map_next {o : Option (List Token)} {L : List Token} {t : Token} : (o.map (t :: ·)).map (L ++ ·) = o.map ((L ++ [t]) ++ ·) := by
  cases o with
  | none => rfl
  | some x => simp
theorem cutR_size {s : ByteArray} (h : 1500 < s.size) : cutR s = ([], 1) := by unfold cutR; rw [if_pos h]
theorem cutR_none {s : ByteArray} (h : s.size ≤ 1500) (hc : cutL (trimL s.data.toList) = none) : cutR s = ([], 4) := by unfold cutR; rw [if_neg (by omega), hc]
theorem cutR_many {s : ByteArray} {L : List Token} (h : s.size ≤ 1500) (hc : cutL (trimL s.data.toList) = some L) (h2 : 200 < L.length) : cutR s = ([], 1) := by unfold cutR; rw [if_neg (by omega), hc]; simp only; rw [if_pos h2]
theorem cutR_fine {s : ByteArray} {L : List Token} (h : s.size ≤ 1500) (hc : cutL (trimL s.data.toList) = some L) (h2 : L.length ≤ 200) : cutR s = (L, 0) := by unfold cutR; rw [if_neg (by omega), hc]; simp only; rw [if_neg (by omega)]

/-- What a call that cuts gives. -/
def CutGives (E : List Token × Int) (w : World) (e : Ending) (w' : World) : Prop := ∃ v, e = .returned (.tuple #[v, .int .i64 E.2]) ∧ Below w.heap.size w w' ∧ SliceOf TokenR 2 24 w' (fresh w.heap.size w'.heap.size) v E.1

set_option maxRecDepth 100000 in
set_option maxHeartbeats 4000000 in
theorem tokCut_any (s : ByteArray) (w : World) (mx : Int) (hT : Tabs w mx) : Calls Tryz.prog 80 #[.string s] w (CutGives (cutR s) w) := by
  obtain ⟨E, hE⟩ : ∃ z, cutR s = z := ⟨_, rfl⟩
  rw [hE]
  by_cases h15 : 1500 < s.size
  · have h15z : (1500 : Int) < (s.size : Int) := by omega
    obtain rfl : E = ([], 1) := by rw [← hE, cutR_size h15]
    clear hE
    go_enter Tryz.func80, Tryz.ntmps80
    go_wp2_with fail
    go_ret2
    exact ⟨_, rfl, Below.refl _ _, SliceOf.nil_⟩
  have h15z : ¬ (1500 : Int) < (s.size : Int) := by omega
  have htr := trimLeft_any s w
  have hnx := trimLeft_any
  have hX0 := trim_le s.data.toList
  have hsl : s.data.toList.length = s.size := rfl
  obtain ⟨X0, hXX⟩ : ∃ z, trimL s.data.toList = z := ⟨_, rfl⟩
  obtain ⟨T0, hT0⟩ : ∃ z, cutL X0 = z := ⟨_, rfl⟩
  have he0 : T0 = none → E = ([], 4) := fun h => by rw [← hE]; exact cutR_none (by omega) (by rw [hXX, hT0, h])
  have he1 : ∀ L : List Token, T0 = some L → 200 < L.length → E = ([], 1) := fun L h h2 => by rw [← hE]; exact cutR_many (by omega) (by rw [hXX, hT0, h]) h2
  have he2 : ∀ L : List Token, T0 = some L → L.length ≤ 200 → E = (L, 0) := fun L h h2 => by rw [← hE]; exact cutR_fine (by omega) (by rw [hXX, hT0, h]) h2
  rw [hXX] at htr hX0
  have hXL : X0.length ≤ 1500 := by omega
  have HTR := Lib.hid htr; have HNX := Lib.hid hnx; have HT0 := Lib.hid hT0; have HE0 := Lib.hid he0; have HE1 := Lib.hid he1; have HE2 := Lib.hid he2; have HT := Lib.hid hT
  clear htr hnx hT0 he0 he1 he2 hT
  clear hE hXX hsl hX0
  go_enter Tryz.func80, Tryz.ntmps80
  go_wp2_with fail
  refine HTR.out.mono ?_
  rintro e w' ⟨rfl, rfl⟩
  go_wp2_with fail
  go_loopg [0, 4, 5, 6, 7] X0.length (fun gg s0 s4 _ _ _ wr => ∃ (X : List UInt8) (c : Nat) (A : Option Addr) (L : List Token), X.length ≤ gg ∧ s0 = .string (lit X) ∧ s4 = .slice A L.length c ∧ L.length + X.length ≤ 1500 ∧ Aside (T0 = (cutL X).map (L ++ ·)) ∧
    Aside (Owns TokenR 2 182 w.heap.size wr none_ (.slice A L.length c) L) ∧ Aside (Below w.heap.size w wr))
  case atStart => exact ⟨X0, 0, none, [], Nat.le_refl _, rfl, rfl, by simpa using hXL, aside (by rw [HT0.out]; simp), aside Owns.nil_, aside (Below.refl _ _)⟩
  case round =>
    obtain ⟨X, c', A, L, hg, rfl, rfl, hle, hTT, hO, BW⟩ := hrel
    cases X with
    | nil =>
      have hz : (lit []).toList.isEmpty = true := by rw [str_isEmpty]; rfl
      have htt : T0 = some L := by rw [hTT.out, cutL_nil]; simp
      have he1 := HE1.out L htt
      have he2 := HE2.out L htt
      have hsl := hO.out.slice TokenR.stays (by_ := 24) (F' := fresh w.heap.size wr.heap.size) (fun k hk => hk.elim) (fun k h1 h2 => ⟨h1, h2⟩) (by omega) (by omega)
      have hz2 : (lit [] : ByteArray) = ⟨#[]⟩ := rfl
      by_cases h2 : 200 < L.length
      · have h2z : (200 : Int) < (L.length : Int) := by omega
        obtain rfl := he1 h2
        clear he1 he2 hsl htt hO hTT
        rw [hz2]
        clear hz hz2
        go_wp2_with fail
        go_ret2
        exact ⟨_, rfl, BW.out, SliceOf.nil_⟩
      · have h2z : ¬ (200 : Int) < (L.length : Int) := by omega
        obtain rfl := he2 (by omega)
        have HSL := Lib.hid hsl
        clear hsl
        clear he1 he2 htt hO hTT
        rw [hz2]
        clear hz hz2
        go_wp2_with fail
        go_ret2
        exact ⟨_, rfl, BW.out, HSL.out⟩
    | cons c r =>
      have hlen : (c :: r).length = r.length + 1 := List.length_cons
      have hfi := tokFirst_any (lit (c :: r)) c r wr mx (by rw [lit_size]; omega) (lit_list _) (HT.out.later BW.out)
      have hfk := first_ok c r
      have hst := cutL_step c r
      have hls := first_less c r
      obtain ⟨⟨t, RL, ok⟩, hR⟩ : ∃ z, tokFirst (c :: r) = z := ⟨_, rfl⟩
      rw [hR] at hfi hfk hst hls
      dsimp only at hfi hfk hst hls
      have htl := trim_le RL
      have htt := hTT.out
      rw [hst] at htt
      obtain ⟨S, hS⟩ : ∃ z, lit (c :: r) = z := ⟨_, rfl⟩
      have hne : S.toList.isEmpty = false := by rw [← hS, str_isEmpty, lit_size]; simp
      rw [hS] at hfi ⊢
      obtain ⟨k, tx⟩ := t
      have hki := hfk.1
      have htx : okS tx := by have := hfk.2; unfold okS; dsimp only at this; omega
      dsimp only at hfi hki
      obtain ⟨X2, hX2⟩ : ∃ z, trimL RL = z := ⟨_, rfl⟩
      have hnx := fun U : World => HNX.out (lit RL) U
      rw [lit_list, hX2] at hnx
      rw [hX2] at htl htt
      have hk1 := hki.1
      have hk2 := hki.2
      have HFI := Lib.hid hfi; have HTT := Lib.hid htt; have HNX2 := Lib.hid hnx
      clear hfi htt hnx
      clear hR hfk hst hX2 hS hTT
      go_wp2_with fail
      refine HFI.out.mono ?_
      rintro e W2 ⟨rfl, hb2⟩
      have hO2 := hO.out.below TokenR.stays hb2
      have hb2 := below_step BW.out hb2
      have HO2 := Lib.hid hO2; have HB2 := Lib.hid hb2
      clear hO2 hb2
      clear hne
      go_upto_region 8 with fail
      have hBt := Box.made W2 182 #[.int .i64 k, .string tx]
      have hbt : Below W2.heap.size W2 (W2.alloc (.cells #[.int .i64 k, .string tx] 182)) := by go_grown
      have hzt : (W2.alloc (.cells #[.int .i64 k, .string tx] 182)).heap.size = W2.heap.size + 1 := by simp
      generalize W2.alloc (.cells #[.int .i64 k, .string tx] 182) = W3 at hBt hbt hzt ⊢
      have hO3 := HO2.out.below TokenR.stays hbt
      have hb3 := below_step HB2.out hbt
      have x0 := hBt.at_ 0 _ rfl
      have x1 := hBt.at_ 1 _ rfl
      have HO3 := Lib.hid hO3; have HB3 := Lib.hid hb3
      clear hO3 hb3
      clear hBt hbt hzt
      cases ok with
      | false =>
        have htn : T0 = none := by rw [HTT.out]; simp
        obtain rfl := HE0.out htn
        clear htn
        go_wp2_with fail
        go_ret2
        exact ⟨_, rfl, HB3.out, SliceOf.nil_⟩
      | true =>
        have htn : T0 = (cutL X2).map ((L ++ [⟨k, tx⟩]) ++ ·) := by rw [HTT.out, if_pos rfl, map_next]
        have HTN := Lib.hid htn
        clear htn
        go_wp2_with (at_builtin; go_must ((refine wpList_push TokenR.stays (.agg #[.int .i64 0, .string ⟨#[]⟩]) [.int .i64 k, .string tx] ⟨k, tx⟩ rfl rfl Tryz.underlying136 (bytes := 24) (by kernel_rfl) HO3.out rfl rfl (by decide) rfl rfl (show TokenR W3 none_ _ _ from ⟨rfl, hki, htx⟩) (tok_cells (d := ⟨k, tx⟩)) (fun k hk => hk.elim) (by unfold maxLen; omega) (by omega) HB3.out.size ?_); (intro A6 c6 W7 hO6 hgr _; have hb6 := HB3.out.trans (hgr.below (B := w.heap.size) (Nat.le_refl _) HB3.out.size); have HO6 := Lib.hid hO6; have HB6 := Lib.hid hb6; clear hO6 hgr hb6)))
        refine (HNX2.out _).mono ?_
        rintro e w' ⟨rfl, rfl⟩
        go_wp2_with fail
        go_roundg X2.length
        case measure => omega
        case rel =>
          refine ⟨X2, c6, A6, L ++ [⟨k, tx⟩], Nat.le_refl _, rfl, by simp, by rw [List.length_append, List.length_singleton]; omega, aside HTN.out, aside ?_, aside HB6.out⟩
          have h := Owns.wider TokenR.stays HO6.out (F' := none_) (fun k hk => hk.elim id id) (fun k hk => hk.elim)
          simpa using h

end Go.Proofs.YtjaladhdnbhliaaGreatDoor

/- Tokens are cut as they were shown. Plain facts. -/
namespace Go.Proofs.YtjaladhdnbhliaaGreatDoor
open Go.RowKit

theorem while_app {p : UInt8 → Bool} : ∀ (l rest : List UInt8), (∀ x ∈ l, p x = true) → (∀ x, rest.head? = some x → p x = false) → (l ++ rest).takeWhile p = l ∧ (l ++ rest).dropWhile p = rest
  | [], [], _, _ => ⟨rfl, rfl⟩
  | [], x :: r, _, h => by
    have := h x rfl
    rw [List.nil_append, List.takeWhile_cons_of_neg (by simp [this]), List.dropWhile_cons_of_neg (by simp [this])]
    exact ⟨rfl, rfl⟩
  | a :: l, rest, h1, h2 => by
    have ha := h1 a (by simp)
    obtain ⟨i1, i2⟩ := while_app l rest (fun x hx => h1 x (by simp [hx])) h2
    rw [List.cons_append, List.takeWhile_cons_of_pos ha, List.dropWhile_cons_of_pos ha, i1, i2]
    exact ⟨rfl, rfl⟩
theorem small_wd {c : UInt8} (h : smallB c = true) : wdB c = true := by unfold wdB; rw [h]; rfl
theorem digit_wd {c : UInt8} (h : digitB c = true) : wdB c = true := by unfold wdB; rw [h]; simp
theorem small_ne {c d : UInt8} (h : smallB c = true) (hd : d.toNat < 97) : c ≠ d := by
  rintro rfl
  unfold smallB at h
  simp at h
  omega
theorem digit_ne {c d : UInt8} (h : digitB c = true) (hd : d.toNat < 48) : c ≠ d := by
  rintro rfl
  unfold digitB at h
  simp at h
  omega
theorem digit_small {c : UInt8} (h : digitB c = true) : smallB c = false := by
  unfold digitB at h
  unfold smallB
  simp at h ⊢
  omega
theorem blank_wd {rest : List UInt8} (h : rest = [] ∨ ∃ r, rest = 32 :: r) : ∀ x, rest.head? = some x → wdB x = false := by
  rcases h with rfl | ⟨r, rfl⟩
  · intro x hx; cases hx
  · intro x hx; simp at hx; subst hx; decide
theorem word_shape {s : ByteArray} (h : wordOk s = true) : ∃ c r, s.data.toList = c :: r ∧ smallB c = true ∧ ∀ x ∈ c :: r, wdB x = true := by
  unfold wordOk at h
  split at h
  · cases h
  · next c r hl =>
    rw [Bool.and_eq_true, Bool.and_eq_true, Bool.not_eq_true', List.any_eq_false] at h
    refine ⟨c, r, hl, h.2.1, fun x hx => ?_⟩
    have := h.2.2 x (by rw [hl]; exact hx)
    unfold wordBad at this
    unfold wdB
    cases h1 : smallB x <;> cases h2 : digitB x <;> simp [h1, h2] at this ⊢
theorem num_shape {s : ByteArray} (h : numOk s = true) : ∃ c r, s.data.toList = c :: r ∧ ∀ x ∈ c :: r, digitB x = true := by
  unfold numOk at h
  rw [Bool.and_eq_true] at h
  obtain ⟨h1, h2⟩ := numL_digits h.2
  cases hl : s.data.toList with
  | nil => exact absurd hl h2
  | cons c r => rw [hl] at h1; exact ⟨c, r, rfl, List.all_eq_true.1 h1⟩
theorem quote_shape {s : ByteArray} (h : quoteOk s = true) : ∀ x ∈ s.data.toList, notQ x = true := by
  unfold quoteOk at h
  rw [Bool.and_eq_true, Bool.not_eq_true', List.any_eq_false] at h
  intro x hx
  have := h.2 x hx
  unfold quoteBad at this
  unfold notQ
  cases e : (x == 34) with
  | false => rfl
  | true =>
    rw [beq_iff_eq] at e
    subst e
    exact absurd (by decide) this
theorem sign_shape {s : ByteArray} (h : signOk s = true) : ∃ c, s = lit [c] ∧ c ∈ signsL := by
  unfold signOk at h
  split at h
  · next c hl => exact ⟨c, by rw [← hl, lit_back], List.contains_iff_mem.1 h⟩
  · cases h
theorem signs_odd : ∀ c ∈ signsL, c ≠ 34 ∧ smallB c = false ∧ digitB c = false ∧ c ≠ 32 := by decide

/-- The first token of a text that begins with one shown. -/
theorem first_good {t : Token} (h : tokErr t = 0) : ∃ c r, (tokTxt t).data.toList = c :: r ∧ c ≠ 32 ∧ ∀ rest, (rest = [] ∨ ∃ r', rest = 32 :: r') → tokFirst (c :: (r ++ rest)) = (t, rest, true) := by
  unfold tokErr at h
  split at h
  · cases h
  next hk =>
  split at h
  next hok =>
    obtain ⟨k, s⟩ := t
    dsimp only at hk
    have hc : k = 1 ∨ k = 2 ∨ k = 3 ∨ k = 4 := by omega
    rcases hc with rfl | rfl | rfl | rfl
    · have hw : wordOk s = true := hok
      obtain ⟨c, r, hl, hs, hall⟩ := word_shape hw
      refine ⟨c, r, hl, small_ne hs (by decide), fun rest hr => ?_⟩
      obtain ⟨h1, h2⟩ := while_app (c :: r) rest hall (blank_wd hr)
      rw [first_small _ (small_ne hs (by decide)) hs, ← List.cons_append, h1, h2, ← hl, lit_back, hw]
    · have hw : numOk s = true := hok
      obtain ⟨c, r, hl, hall⟩ := num_shape hw
      have hd := hall c (by simp)
      refine ⟨c, r, hl, digit_ne hd (by decide), fun rest hr => ?_⟩
      obtain ⟨h1, h2⟩ := while_app (c :: r) rest (fun x hx => digit_wd (hall x hx)) (blank_wd hr)
      rw [first_digit _ (digit_ne hd (by decide)) (digit_small hd) hd, ← List.cons_append, h1, h2, ← hl, lit_back, hw]
    · have hw : quoteOk s = true := hok
      refine ⟨34, s.data.toList ++ [34], by rw [tokTxt, if_pos rfl, ba_app, ba_app]; rfl, by decide, fun rest _ => ?_⟩
      obtain ⟨h1, h2⟩ := while_app s.data.toList (34 :: rest) (quote_shape hw) (fun x hx => by simp at hx; subst hx; rfl)
      rw [first_quote, List.append_assoc, List.singleton_append, h1, h2, lit_back, hw]
      rfl
    · have hw : signOk s = true := hok
      obtain ⟨c, rfl, hm⟩ := sign_shape hw
      obtain ⟨h1, h2, h3, h4⟩ := signs_odd c hm
      refine ⟨c, [], by rw [tokTxt, if_neg (by show ¬ (4 : Int) = 3; decide)]; exact lit_list _, h4, fun rest _ => ?_⟩
      rw [List.nil_append, first_sign _ h1 h2 h3, hw]
  next => cases h

/-- All texts of tokens, with blanks between. -/
def spL (L : List Token) : List UInt8 := Lib.join ((L.map tokTxt).map (·.data.toList)) [32]
theorem spaced_list (L : List Token) : (spaced (L.map tokTxt)).data.toList = spL L := by unfold spaced spL; rw [ba_of]
theorem spL_cons (t : Token) (L : List Token) : ∃ rest, spL (t :: L) = (tokTxt t).data.toList ++ rest ∧ (rest = [] ∨ ∃ r', rest = 32 :: r') ∧ trimL rest = trimL (spL L) := by
  unfold spL
  rw [List.map_cons, List.map_cons, Lib.join_cons]
  refine ⟨_, rfl, ?_⟩
  cases L with
  | nil => exact ⟨.inl rfl, rfl⟩
  | cons u M =>
    rw [List.map_cons, List.map_cons, Lib.join_cons]
    refine ⟨.inr ⟨_, rfl⟩, ?_⟩
    simp only [Lib.joinTail, List.map_cons, List.flatten_cons, List.cons_append, List.nil_append]
    rw [trim_blank]
theorem cut_back : ∀ (L : List Token), (∀ t ∈ L, tokErr t = 0) → cutL (trimL (spL L)) = some L
  | [], _ => rfl
  | t :: L, h => by
    obtain ⟨rest, h1, h2, h3⟩ := spL_cons t L
    obtain ⟨c, r, hl, hc, hf⟩ := first_good (h t (by simp))
    have ih := cut_back L fun u hu => h u (by simp [hu])
    rw [h1, hl, List.cons_append, trim_other hc, cutL_step, hf rest h2, if_pos rfl]
    show (cutL (trimL rest)).map (t :: ·) = _
    rw [h3, ih]; rfl
theorem first_err (c : UInt8) (r : List UInt8) (h : (tokFirst (c :: r)).2.2 = true) : tokErr (tokFirst (c :: r)).1 = 0 := by
  by_cases hq : c = 34
  · subst hq
    rw [first_quote] at h ⊢
    rw [Bool.and_eq_true] at h
    exact tokErr_ok (by show (1 : Int) ≤ 3; decide) (by show (3 : Int) ≤ 4; decide) h.2
  cases hs : smallB c with
  | true =>
    rw [first_small r hq hs] at h ⊢
    exact tokErr_ok (by show (1 : Int) ≤ 1; decide) (by show (1 : Int) ≤ 4; decide) h
  | false =>
    cases hd : digitB c with
    | true =>
      rw [first_digit r hq hs hd] at h ⊢
      exact tokErr_ok (by show (1 : Int) ≤ 2; decide) (by show (2 : Int) ≤ 4; decide) h
    | false =>
      rw [first_sign r hq hs hd] at h ⊢
      exact tokErr_ok (by show (1 : Int) ≤ 4; decide) (by show (4 : Int) ≤ 4; decide) h
theorem cut_good : ∀ (n : Nat) (X : List UInt8) (L : List Token), X.length ≤ n → cutL X = some L → ∀ t ∈ L, tokErr t = 0
  | _, [], L, _, h => by
    rw [cutL_nil] at h
    injection h with h
    subst h
    intro t ht; cases ht
  | 0, c :: r, _, hn, _ => by simp at hn
  | n + 1, c :: r, L, hn, h => by
    rw [cutL_step] at h
    split at h
    · next hok =>
      have h1 := first_less c r
      have h2 := trim_le (tokFirst (c :: r)).2.1
      cases hx : cutL (trimL (tokFirst (c :: r)).2.1) with
      | none => rw [hx] at h; cases h
      | some M =>
        rw [hx] at h
        injection h with h
        subst h
        intro t ht
        rcases List.mem_cons.1 ht with rfl | ht
        · exact first_err c r hok
        · exact cut_good n _ M (by omega) hx t ht
    · cases h
theorem trim_many (k : Nat) (l : List UInt8) : trimL (List.replicate k 32 ++ l) = trimL l := by
  induction k with
  | zero => rfl
  | succ k ih => rw [List.replicate_succ, List.cons_append, trim_blank, ih]
theorem cutR_some {s : ByteArray} {L : List Token} (h : cutR s = (L, 0)) : s.size ≤ 1500 ∧ cutL (trimL s.data.toList) = some L ∧ L.length ≤ 200 := by
  unfold cutR at h
  split at h
  · injection h with _ h; cases h
  split at h
  · injection h with _ h; cases h
  next M hM =>
    split at h
    · injection h with _ h; cases h
    · injection h with h _
      subst h
      exact ⟨by omega, hM, by omega⟩
theorem cutR_bad {s : ByteArray} (h : (cutR s).2 ≠ 0) : (cutR s).1 = [] := by
  by_cases h15 : 1500 < s.size
  · rw [cutR_size h15]
  · cases hc : cutL (trimL s.data.toList) with
    | none => rw [cutR_none (by omega) hc]
    | some L =>
      by_cases h2 : 200 < L.length
      · rw [cutR_many (by omega) hc h2]
      · rw [cutR_fine (by omega) hc (by omega)] at h
        exact absurd rfl h
theorem cutR_toks {s : ByteArray} {L : List Token} (h : cutR s = (L, 0)) : toksErr L = 0 := by
  obtain ⟨_, h2, h3⟩ := cutR_some h
  exact toks_each h3 (eachErr_none fun j hj y hy => cut_good _ _ L (Nat.le_refl _) h2 y (List.mem_of_getElem? hy))
theorem cutR_back {s : ByteArray} {L : List Token} (h : cutR s = (L, 0)) (hs : (spaced (L.map tokTxt)).size ≤ 1500) : cutR (spaced (L.map tokTxt)) = (L, 0) := by
  obtain ⟨_, h2, h3⟩ := cutR_some h
  exact cutR_fine hs (by rw [spaced_list]; exact cut_back L (cut_good _ _ L (Nat.le_refl _) h2)) h3
theorem cutR_wide {s b : ByteArray} {L : List Token} {k : Nat} (h : cutR s = (L, 0)) (hb : b.data.toList = List.replicate k 32 ++ s.data.toList) (hs : b.size ≤ 1500) : cutR b = (L, 0) := by
  obtain ⟨_, h2, h3⟩ := cutR_some h
  exact cutR_fine hs (by rw [hb, trim_many]; exact h2) h3
theorem repeat_one (c : UInt8) : ∀ k, Lib.repeatL [c] k = List.replicate k c
  | 0 => rfl
  | k + 1 => by unfold Lib.repeatL; rw [repeat_one c k]; rfl
theorem commas (k : Nat) : cutL (List.replicate k 44) = some (List.replicate k ⟨4, lit [44]⟩) := by
  induction k with
  | zero => rfl
  | succ k ih =>
    rw [List.replicate_succ, cutL_step, first_sign _ (by decide) (by decide) (by decide), if_pos (by show signOk (lit [44]) = true; decide)]
    show (cutL (trimL (List.replicate k 44))).map (⟨4, lit [44]⟩ :: ·) = _
    have ht : trimL (List.replicate k 44) = List.replicate k 44 := by
      cases k with
      | zero => rfl
      | succ k => rw [List.replicate_succ, trim_other (by decide)]
    rw [ht, ih]; rfl

end Go.Proofs.YtjaladhdnbhliaaGreatDoor
