/- Bytes that are written: (*record.writer).text, count, face. -/
import Derived.Test.YtejiaimcgmpliaaRecEnc
import Derived.Test.YtejiaimcgmpliaaBuild
import Derived.Maps.AppendAt
import Derived.Lib.BufferKept
namespace Go.Proofs.Ytejiaimcgmpliaa
open Go.RowKit Go.Shelf

theorem u8_nat (k : Nat) : (k : Int) % 256 = ((UInt8.ofNat k).toNat : Int) := by simp
theorem u8_hi (k : Nat) : (k : Int) / 256 % 256 = ((UInt8.ofNat (k / 256)).toNat : Int) := by
  rw [show ((k : Int) / 256) = ((k / 256 : Nat) : Int) by simp]
  exact u8_nat _

/-- A writer in a block of its own, and the bytes that it holds. -/
def Wr (base b : Nat) (l : List UInt8) (w : World) : Prop := base ≤ b ∧ ∃ v, Box w b 142 #[v] ∧ w.ownsRow base 5 1 v l.length (Lib.byteCells l)
/-- What was written, and what was left alone. -/
structure Wrote (base b : Nat) (w w' : World) (l : List UInt8) : Prop where
  wr : Wr base b l w'
  bl : Below base w w'
  ok : Lib.OthersKept 5 (some b) w w'

theorem Wr.lt {base b : Nat} {l : List UInt8} {w : World} (h : Wr base b l w) : b < w.heap.size := by
  obtain ⟨_, v, hb, _⟩ := h
  exact hb.lt
theorem Wr.up {base b : Nat} {l : List UInt8} {w w' : World} (h : Wr base b l w) (hb : Below w.heap.size w w') : Wr base b l w' := by
  obtain ⟨hB, v, hbk, hown⟩ := h
  exact ⟨hB, v, hbk.later hb hbk.lt, owns_heap' hown fun g hg => hb.block g (hown.lt g hg).2⟩
theorem Wrote.start {base b : Nat} {w : World} {l : List UInt8} (h : Wr base b l w) : Wrote base b w w l := ⟨h, Below.refl _ _, Lib.OthersKept.refl _ _ _⟩
theorem Wrote.trans {base b : Nat} {w w1 w2 : World} {l m : List UInt8} (h : Wrote base b w w1 l) (k : Wrote base b w1 w2 m) : Wrote base b w w2 m :=
  ⟨k.wr, h.bl.trans k.bl, h.ok.trans k.ok⟩
theorem Wrote.up {base b : Nat} {w w1 w2 : World} {l : List UInt8} (h : Wrote base b w w1 l) (hb : Below w1.heap.size w1 w2) (hs : base ≤ w1.heap.size) : Wrote base b w w2 l :=
  ⟨h.wr.up hb, h.bl.trans (hb.mono hs), h.ok.below hb⟩
theorem Wrote.alloc {base b : Nat} {w w1 : World} {l : List UInt8} (h : Wrote base b w w1 l) (hs : base ≤ w1.heap.size) (o : Obj) : Wrote base b w (w1.alloc o) l :=
  ⟨h.wr.up ((Below.refl _ _).alloc (Nat.le_refl _) o), h.bl.alloc hs o, h.ok.alloc o⟩
theorem Wrote.box {base b n : Nat} {w w' : World} {l : List UInt8} {T : TypeId} {cs : Array Value} (h : Wrote base b w w' l) (hB : Box w n T cs) (hn : n ≠ b) (hT : T ≠ 5) : Box w' n T cs := others_box h.ok hB hn hT
theorem Wrote.same {base b : Nat} {w w' : World} {l m : List UInt8} (h : Wrote base b w w' l) (e : l = m) : Wrote base b w w' m := e ▸ h

/-- The store of the new bytes. -/
theorem wrote_put {base b : Nat} {w w' : World} {l : List UInt8} {v v' : Value} (hB : base ≤ b) (hb : Box w' b 142 #[v]) (hown : w'.ownsRow base 5 1 v' l.length (Lib.byteCells l)) (h1 : Below base w w') (h2 : Lib.OthersKept 5 (some b) w w') :
    Wrote base b w (w'.setCell ⟨b, 0, none⟩ v') l := by
  have hne := Lib.ownBlock_ne hown hb (by decide)
  exact ⟨⟨hB, v', hb.put 0 v', owns_heap' hown fun g hg => Below.heap_setCell _ _ _ _ (fun e => hne (by rw [hg, e]))⟩, h1.setCell (p := ⟨b, 0, none⟩) hB _, h2.setCell ⟨b, 0, none⟩ rfl _⟩

set_option maxHeartbeats 2000000 in
set_option maxRecDepth 100000 in
theorem wcount_any (base b : Nat) (l : List UInt8) (n : Nat) (w : World) (h : Wr base b l w) (hbase : base ≤ w.heap.size) (hlen : l.length + 1 ≤ 140737488355328) :
    Calls Try.prog 79 #[.pointer (some ⟨b, 0, none⟩), .int .i64 n] w fun e w' => e = .returned (.tuple #[]) ∧ Wrote base b w w' (l ++ encNum n) := by
  obtain ⟨hB, v, hbk, hown⟩ := h
  have hne := Lib.ownBlock_ne hown hbk (by decide)
  obtain ⟨i0, hi, hz0, hz1, hz2⟩ := info_parts (show (Try.prog.info? 5).map (fun i => (i.zero, i.size, i.bytes)) = some (some (.int .u8 0 : Value), 1, 1) by kernel_rfl)
  obtain ⟨A, c, rfl⟩ : ∃ A c, v = .slice A l.length c := by
    rcases hown.2 with ⟨hv, h0⟩ | ⟨g, cap, cur, hv, _⟩
    · exact ⟨none, 0, by rw [hv, h0]⟩
    · exact ⟨_, _, hv⟩
  have c0 := hbk.at_ 0 _ rfl
  have hlt := hbk.lt
  go_enter Try.func79, Try.ntmps79
  go_wp2_with (at_builtin; refine wpList_append_own_at _ rfl _ _ 110 rfl base 5 i0 (.int .u8 0) 1 1 Try.underlying110 hi hz0 hz1 hz2 rfl (by decide) _ _ _ rfl (hown.alloc _) ⟨w.heap.size, 0, none⟩ 1 1 [.int .u8 ((n : Int) % 256)] rfl rfl ?c1 ?c2 ?c3 ?c4 ?c5 ?_)
  case c1 =>
    intro j u hj
    match j, hj with
    | 0, hj => simp at hj; subst hj; simp [Addr.add]
  case c2 => intro u hu; simp at hu; subst hu; rfl
  case c3 => unfold maxLen; omega
  case c4 => omega
  case c5 => simp; omega
  intro v' w2 hown' hgrow _ _
  have hb2 : Box w2 b 142 #[.slice A l.length c] := (hgrow.block b (by simp; omega) (fun e => hne e.symm)).trans (hbk.alloc _)
  have d0 := hb2.at_ 0 _ rfl
  have f0 := hb2.free 0
  have hk := ((Lib.OthersKept.refl 5 (some b) w).alloc (.cells #[.int .u8 ((n : Int) % 256)] 5)).grown hgrow (Lib.ownsRow_kind (hown.alloc _))
  have hbl := ((Below.refl base w).alloc hbase (.cells #[.int .u8 ((n : Int) % 256)] 5)).grown hgrow (by simp; omega) (fun k hk => (hown.lt k hk).1)
  obtain ⟨ao, n', cap, rfl⟩ : ∃ ao n' cap, v' = .slice ao n' cap := by
    rcases hown'.2 with ⟨hv, _⟩ | ⟨g, cap, cur, hv, _⟩
    · exact ⟨_, _, _, hv⟩
    · exact ⟨_, _, _, hv⟩
  go_wp2_with fail
  go_end0
  refine ⟨rfl, wrote_put hB hb2 ?_ hbl hk⟩
  have e1 : Lib.byteCells (l ++ encNum n) = Lib.byteCells l ++ [.int .u8 ((n : Int) % 256)] := by
    rw [Lib.byteCells_append, u8_nat]; rfl
  rw [e1, List.length_append]
  exact hown'

set_option maxHeartbeats 2000000 in
set_option maxRecDepth 100000 in
theorem wtext_any (base b : Nat) (l : List UInt8) (s : ByteArray) (w : World) (h : Wr base b l w) (hbase : base ≤ w.heap.size) (hlen : l.length + s.size + 2 ≤ 140737488355328) :
    Calls Try.prog 78 #[.pointer (some ⟨b, 0, none⟩), .string s] w fun e w' => e = .returned (.tuple #[]) ∧ Wrote base b w w' (l ++ encStr s) := by
  obtain ⟨hB, v, hbk, hown⟩ := h
  have hne := Lib.ownBlock_ne hown hbk (by decide)
  obtain ⟨i0, hi, hz0, hz1, hz2⟩ := info_parts (show (Try.prog.info? 5).map (fun i => (i.zero, i.size, i.bytes)) = some (some (.int .u8 0 : Value), 1, 1) by kernel_rfl)
  obtain ⟨A, c, rfl⟩ : ∃ A c, v = .slice A l.length c := by
    rcases hown.2 with ⟨hv, h0⟩ | ⟨g, cap, cur, hv, _⟩
    · exact ⟨none, 0, by rw [hv, h0]⟩
    · exact ⟨_, _, hv⟩
  have c0 := hbk.at_ 0 _ rfl
  have hlt := hbk.lt
  go_enter Try.func78, Try.ntmps78
  go_wp2_with (at_builtin; refine wpList_append_own_at _ rfl _ _ 110 rfl base 5 i0 (.int .u8 0) 1 1 Try.underlying110 hi hz0 hz1 hz2 rfl (by decide) _ _ _ rfl (hown.alloc _) ⟨w.heap.size, 0, none⟩ 2 2 [.int .u8 ((s.size : Int) / 256 % 256), .int .u8 ((s.size : Int) % 256)] rfl rfl ?c1 ?c2 ?c3 ?c4 ?c5 ?_)
  case c1 =>
    intro j u hj
    match j, hj with
    | 0, hj => simp at hj; subst hj; simp [Addr.add]
    | 1, hj => simp at hj; subst hj; simp [Addr.add]
  case c2 => intro u hu; simp at hu; rcases hu with rfl | rfl <;> rfl
  case c3 => unfold maxLen; omega
  case c4 => omega
  case c5 => simp; omega
  intro v' w2 hown' hgrow _ _
  have hb2 : Box w2 b 142 #[.slice A l.length c] := (hgrow.block b (by simp; omega) (fun e => hne e.symm)).trans (hbk.alloc _)
  have hk := ((Lib.OthersKept.refl 5 (some b) w).alloc (.cells #[.int .u8 ((s.size : Int) / 256 % 256), .int .u8 ((s.size : Int) % 256)] 5)).grown hgrow (Lib.ownsRow_kind (hown.alloc _))
  have hbl := ((Below.refl base w).alloc hbase (.cells #[.int .u8 ((s.size : Int) / 256 % 256), .int .u8 ((s.size : Int) % 256)] 5)).grown hgrow (by simp; omega) (fun k hk => (hown.lt k hk).1)
  have hne2 := Lib.ownBlock_ne hown' hb2 (by decide)
  clear c0
  go_wp2_with (at_builtin; refine Lib.wpList_append_own_string _ rfl _ _ 110 9 rfl base 5 i0 Try.underlying110 Try.underlying9 hi hz0 hz1 hz2 _ _ _ rfl hown' s rfl ?d3 ?d4 ?d5 ?_)
  case d3 => unfold maxLen; omega
  case d4 => omega
  case d5 => exact Nat.le_trans hbase hbl.size
  intro v3 w3 hown3 hgrow3 _
  have hlt2 := hb2.lt
  have hb3 : Box w3 b 142 #[.slice A l.length c] := (hgrow3.block b hlt2 (fun e => hne2 e.symm)).trans hb2
  have d0 := hb3.at_ 0 _ rfl
  have f0 := hb3.free 0
  obtain ⟨ao, n', cap, rfl⟩ : ∃ ao n' cap, v3 = .slice ao n' cap := by
    rcases hown3.2 with ⟨hv, _⟩ | ⟨g, cap, cur, hv, _⟩
    · exact ⟨_, _, _, hv⟩
    · exact ⟨_, _, _, hv⟩
  have hk3 := hk.grown hgrow3 (Lib.ownsRow_kind hown')
  have hbl3 := hbl.grown hgrow3 (Nat.le_trans hbase hbl.size) (fun k hk => (hown'.lt k hk).1)
  go_wp2_with fail
  go_end0
  refine ⟨rfl, wrote_put hB hb3 ?_ hbl3 hk3⟩
  have e1 : Lib.byteCells (l ++ encStr s) = Lib.byteCells l ++ [.int .u8 ((s.size : Int) / 256 % 256), .int .u8 ((s.size : Int) % 256)] ++ Lib.strCells s := by
    rw [Lib.byteCells_append, u8_nat, u8_hi, List.append_assoc]; rfl
  have e2 : (l ++ encStr s).length = l.length + 2 + s.size := by rw [List.length_append, encStr_len]; omega
  rw [e1, e2, List.append_assoc]
  exact hown3

end Go.Proofs.Ytejiaimcgmpliaa
