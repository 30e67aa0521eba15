/- Texts that belong together: LogBytes, LogSum, LogPlain, LogFirst, LogScan, LogScanR. -/
import Derived.Test.YtoejhgbndehaiaaRefBytes
import Derived.Test.YtoejhgbndehaiaaReads
import Derived.Test.YtoejhgbndehaiaaDecode
import Derived.Test.YtoejhgbndehaiaaOnce
import Derived.Test.YtoejhgbndehaiaaBase
import Derived.Test.YtoejhgbndehaiaaRecordOf
/- A log's numbers as bytes, and its sums. -/
namespace Go.Proofs.Ytoejhgbndehaiaa
open Go.RowKit Go.Shelf

/-- A number in four bytes, in three. -/
def num4 (n : Nat) : List UInt8 := [UInt8.ofNat (n / 16777216), UInt8.ofNat (n / 65536), UInt8.ofNat (n / 256), UInt8.ofNat n]
def num3 (n : Nat) : List UInt8 := [UInt8.ofNat (n / 65536), UInt8.ofNat (n / 256), UInt8.ofNat n]

theorem byte_div256 (n : Nat) : (n : Int) / 256 % 256 = ((UInt8.ofNat (n / 256)).toNat : Int) := by
  rw [show ((n : Int) / 256) = ((n / 256 : Nat) : Int) by simp]
  exact byte_nat _
theorem byte_div65536 (n : Nat) : (n : Int) / 65536 % 256 = ((UInt8.ofNat (n / 65536)).toNat : Int) := by
  rw [show ((n : Int) / 65536) = ((n / 65536 : Nat) : Int) by simp]
  exact byte_nat _
theorem byte_div16777216 (n : Nat) : (n : Int) / 16777216 % 256 = ((UInt8.ofNat (n / 16777216)).toNat : Int) := by
  rw [show ((n : Int) / 16777216) = ((n / 16777216 : Nat) : Int) by simp]
  exact byte_nat _
theorem made_box {w' : World} {base g n : Nat} {e : TypeId} {xs : List Value} (h : w'.ownsRow base e 1 (.slice (some ⟨g, 0, none⟩) n n) n xs) (h0 : 0 < n) : Box w' g e xs.toArray := by
  rcases h.2 with ⟨hv, _⟩ | ⟨g', cap, cur, hv, _, hh, _, _, hs, hx⟩
  · cases hv
  · simp only [Value.slice.injEq, Option.some.injEq, Addr.mk.injEq] at hv
    obtain ⟨⟨rfl, _⟩, _, rfl⟩ := hv
    have : cur = xs.toArray := by
      rw [← hx, List.take_of_length_le (by simp; omega)]
    subst this
    exact hh

set_option maxHeartbeats 1000000 in
set_option maxRecDepth 100000 in
theorem digits_3 (n : Nat) (w : World) (hn : n ≤ 9223372036854775807) : Calls Try.prog 34 #[.int .i64 n, .int .i64 3] w fun e w' => e = .returned (.string (txt (num3 n))) ∧ Below w.heap.size w w' := by
  obtain ⟨i0, hi, hz0, hz1, hz2⟩ := info_parts (show (Try.prog.info? 5).map (fun i => (i.zero, i.size, i.bytes)) = some (some (.int .u8 0 : Value), 1, 1) by kernel_rfl)
  go_enter Try.func34, Try.ntmps34
  go_wp2_with (at_make; refine wpList_make_full _ rfl _ _ 87 rfl w.heap.size 5 i0 (.int .u8 0) 1 Try.underlying87 hi hz0 hz1 .i64 .i64 3 3 3 rfl rfl rfl rfl (by rw [hz2]; decide) (by unfold maxLen; decide) (Nat.le_refl _) ?_)
  intro w1 hown hgr
  have hc : (Value.int IntKind.u8 0).cells = #[.int .u8 0] := rfl
  have he : (madeCells (Value.int IntKind.u8 0).cells (3 * 1)).toList.toArray = #[.int .u8 0, .int .u8 0, .int .u8 0] := by rw [hc]; simp [madeCells, List.range_succ]
  have hB : Box w1 w.heap.size 5 #[.int .u8 0, .int .u8 0, .int .u8 0] := he ▸ made_box hown (by decide)
  have hb1 : Below w.heap.size w w1 := (Below.refl _ _).grown hgr (Nat.le_refl _) (fun k hk => by cases hk)
  have c0 := hB.at_ 0 (.int .u8 0) rfl
  have c1 := hB.at_ 1 (.int .u8 0) rfl
  have c2 := hB.at_ 2 (.int .u8 0) rfl
  have f0 := hB.free 0
  have f1 := hB.free 1
  have f2 := hB.free 2
  have hcv : (convert 87 9 (.slice (some ⟨w.heap.size, 0, none⟩) 3 3)).run Try.prog (((w1.setCell ⟨w.heap.size, 2, none⟩ (.int .u8 ((n : Int) % 256))).setCell ⟨w.heap.size, 1, none⟩ (.int .u8 ((n : Int) / 256 % 256))).setCell ⟨w.heap.size, 0, none⟩ (.int .u8 ((n : Int) / 65536 % 256))) = .ok (.string (txt (num3 n))) (((w1.setCell ⟨w.heap.size, 2, none⟩ (.int .u8 ((n : Int) % 256))).setCell ⟨w.heap.size, 1, none⟩ (.int .u8 ((n : Int) / 256 % 256))).setCell ⟨w.heap.size, 0, none⟩ (.int .u8 ((n : Int) / 65536 % 256))) := by
    refine run_convert_bytes_back _ 87 9 5 ⟨w.heap.size, 0, none⟩ 3 (num3 n) Try.underlying87 Try.underlying5 Try.underlying9 (fun j hj => ?_)
    have hB2 := (((hB.put 2 (.int .u8 ((n : Int) % 256))).put 1 (.int .u8 ((n : Int) / 256 % 256))).put 0 (.int .u8 ((n : Int) / 65536 % 256)))
    match j, hj with
    | 0, _ =>
      have h := hB2.at_ 0 (.int .u8 ((n : Int) / 65536 % 256)) rfl
      rw [byte_div65536] at h
      first | exact h | simpa [Addr.add, num3] using h
    | 1, _ =>
      have h := hB2.at_ 1 (.int .u8 ((n : Int) / 256 % 256)) rfl
      rw [byte_div256] at h
      first | exact h | simpa [Addr.add, num3] using h
    | 2, _ =>
      have h := hB2.at_ 2 (.int .u8 ((n : Int) % 256)) rfl
      rw [byte_nat] at h
      first | exact h | simpa [Addr.add, num3] using h
  have HB1 := Lib.hid hb1
  clear hb1
  clear hown hgr hB he
  go_wp2_with fail
  refine wp_loop_rounds 4 ?_
  rw [rounds_succ]
  go_wp2_with fail
  rw [rounds_succ]
  go_wp2_with fail
  rw [rounds_succ]
  go_wp2_with fail
  rw [rounds_succ]
  go_wp2_with fail
  go_ret
  exact ⟨rfl, HB1.out.trans (by go_grown)⟩

set_option maxHeartbeats 1000000 in
set_option maxRecDepth 100000 in
theorem digits_4 (n : Nat) (w : World) (hn : n ≤ 9223372036854775807) : Calls Try.prog 34 #[.int .i64 n, .int .i64 4] w fun e w' => e = .returned (.string (txt (num4 n))) ∧ Below w.heap.size w w' := by
  obtain ⟨i0, hi, hz0, hz1, hz2⟩ := info_parts (show (Try.prog.info? 5).map (fun i => (i.zero, i.size, i.bytes)) = some (some (.int .u8 0 : Value), 1, 1) by kernel_rfl)
  go_enter Try.func34, Try.ntmps34
  go_wp2_with (at_make; refine wpList_make_full _ rfl _ _ 87 rfl w.heap.size 5 i0 (.int .u8 0) 1 Try.underlying87 hi hz0 hz1 .i64 .i64 4 4 4 rfl rfl rfl rfl (by rw [hz2]; decide) (by unfold maxLen; decide) (Nat.le_refl _) ?_)
  intro w1 hown hgr
  have hc : (Value.int IntKind.u8 0).cells = #[.int .u8 0] := rfl
  have he : (madeCells (Value.int IntKind.u8 0).cells (4 * 1)).toList.toArray = #[.int .u8 0, .int .u8 0, .int .u8 0, .int .u8 0] := by rw [hc]; simp [madeCells, List.range_succ]
  have hB : Box w1 w.heap.size 5 #[.int .u8 0, .int .u8 0, .int .u8 0, .int .u8 0] := he ▸ made_box hown (by decide)
  have hb1 : Below w.heap.size w w1 := (Below.refl _ _).grown hgr (Nat.le_refl _) (fun k hk => by cases hk)
  have c0 := hB.at_ 0 (.int .u8 0) rfl
  have c1 := hB.at_ 1 (.int .u8 0) rfl
  have c2 := hB.at_ 2 (.int .u8 0) rfl
  have c3 := hB.at_ 3 (.int .u8 0) rfl
  have f0 := hB.free 0
  have f1 := hB.free 1
  have f2 := hB.free 2
  have f3 := hB.free 3
  have hcv : (convert 87 9 (.slice (some ⟨w.heap.size, 0, none⟩) 4 4)).run Try.prog ((((w1.setCell ⟨w.heap.size, 3, none⟩ (.int .u8 ((n : Int) % 256))).setCell ⟨w.heap.size, 2, none⟩ (.int .u8 ((n : Int) / 256 % 256))).setCell ⟨w.heap.size, 1, none⟩ (.int .u8 ((n : Int) / 65536 % 256))).setCell ⟨w.heap.size, 0, none⟩ (.int .u8 ((n : Int) / 16777216 % 256))) = .ok (.string (txt (num4 n))) ((((w1.setCell ⟨w.heap.size, 3, none⟩ (.int .u8 ((n : Int) % 256))).setCell ⟨w.heap.size, 2, none⟩ (.int .u8 ((n : Int) / 256 % 256))).setCell ⟨w.heap.size, 1, none⟩ (.int .u8 ((n : Int) / 65536 % 256))).setCell ⟨w.heap.size, 0, none⟩ (.int .u8 ((n : Int) / 16777216 % 256))) := by
    refine run_convert_bytes_back _ 87 9 5 ⟨w.heap.size, 0, none⟩ 4 (num4 n) Try.underlying87 Try.underlying5 Try.underlying9 (fun j hj => ?_)
    have hB2 := ((((hB.put 3 (.int .u8 ((n : Int) % 256))).put 2 (.int .u8 ((n : Int) / 256 % 256))).put 1 (.int .u8 ((n : Int) / 65536 % 256))).put 0 (.int .u8 ((n : Int) / 16777216 % 256)))
    match j, hj with
    | 0, _ =>
      have h := hB2.at_ 0 (.int .u8 ((n : Int) / 16777216 % 256)) rfl
      rw [byte_div16777216] at h
      first | exact h | simpa [Addr.add, num4] using h
    | 1, _ =>
      have h := hB2.at_ 1 (.int .u8 ((n : Int) / 65536 % 256)) rfl
      rw [byte_div65536] at h
      first | exact h | simpa [Addr.add, num4] using h
    | 2, _ =>
      have h := hB2.at_ 2 (.int .u8 ((n : Int) / 256 % 256)) rfl
      rw [byte_div256] at h
      first | exact h | simpa [Addr.add, num4] using h
    | 3, _ =>
      have h := hB2.at_ 3 (.int .u8 ((n : Int) % 256)) rfl
      rw [byte_nat] at h
      first | exact h | simpa [Addr.add, num4] using h
  have HB1 := Lib.hid hb1
  clear hb1
  clear hown hgr hB he
  go_wp2_with fail
  refine wp_loop_rounds 5 ?_
  rw [rounds_succ]
  go_wp2_with fail
  rw [rounds_succ]
  go_wp2_with fail
  rw [rounds_succ]
  go_wp2_with fail
  rw [rounds_succ]
  go_wp2_with fail
  rw [rounds_succ]
  go_wp2_with fail
  go_ret
  exact ⟨rfl, HB1.out.trans (by go_grown)⟩

end Go.Proofs.Ytoejhgbndehaiaa

/- A log's sums: log.sum, and the reference's sealOf. -/
namespace Go.Proofs.Ytoejhgbndehaiaa
open Go.RowKit Go.Shelf

def adlStep (p : Nat × Nat) (b : UInt8) : Nat × Nat := ((p.1 + b.toNat) % 65521, (p.2 + (p.1 + b.toNat) % 65521) % 65521)
/-- The two sums of bytes. -/
def adl (l : List UInt8) : Nat × Nat := l.foldl adlStep (1, 0)
theorem adl_snoc (l : List UInt8) (b : UInt8) : adl (l ++ [b]) = adlStep (adl l) b := by simp [adl]
theorem adl_take {l : List UInt8} {k : Nat} {b : UInt8} (h : l[k]? = some b) : adl (l.take (k + 1)) = adlStep (adl (l.take k)) b := by rw [take_snoc h, adl_snoc]
theorem adl_small (l : List UInt8) : (adl l).1 < 65521 ∧ (adl l).2 < 65521 := by
  have : ∀ (l : List UInt8) (p : Nat × Nat), p.1 < 65521 ∧ p.2 < 65521 → (l.foldl adlStep p).1 < 65521 ∧ (l.foldl adlStep p).2 < 65521 := by
    intro l
    induction l with
    | nil => intro p h; exact h
    | cons b l ih => intro p h; exact ih _ ⟨Nat.mod_lt _ (by decide), Nat.mod_lt _ (by decide)⟩
  exact this l (1, 0) ⟨by decide, by decide⟩
def sumN (l : List UInt8) : Nat := (adl l).2 * 65536 + (adl l).1

theorem bits_or_i64_nat (a b : Nat) (ha : a < 9223372036854775808) (hb : b < 9223372036854775808) : bits BinOp.or IntKind.i64 (a : Int) (b : Int) = ((a ||| b : Nat) : Int) := by
  have h1 : (BitVec.ofInt 64 (a : Int)).toNat = a := by rw [BitVec.toNat_ofInt]; omega
  have h2 : (BitVec.ofInt 64 (b : Int)).toNat = b := by rw [BitVec.toNat_ofInt]; omega
  have h3 : a ||| b < 2 ^ 63 := Nat.or_lt_two_pow (by simpa using ha) (by simpa using hb)
  show IntKind.i64.wrap (((BitVec.ofInt 64 (a : Int)) ||| (BitVec.ofInt 64 (b : Int))).toNat : Int) = _
  rw [BitVec.toNat_or, h1, h2]
  exact IntWalk.i64_in _ (by omega)
theorem bits_or_sum (x y : Nat) (hx : x < 65536) (hy : y < 65536) : bits BinOp.or IntKind.i64 (IntKind.i64.wrap ((y : Int) * 65536)) (x : Int) = ((y * 65536 + x : Nat) : Int) := by
  have h1 : IntKind.i64.wrap ((y : Int) * 65536) = ((y * 65536 : Nat) : Int) := by
    rw [IntWalk.i64_in _ (by omega)]; simp
  rw [h1]
  have h2 : y * 65536 ||| x = y * 65536 + x := by
    have := Nat.shiftLeft_add_eq_or_of_lt (i := 16) (by simpa using hx : x < 2 ^ 16) y
    rw [Nat.shiftLeft_eq] at this
    exact this.symm
  rw [← h2]
  exact bits_or_i64_nat _ _ (by omega) (by omega)
theorem step_x (x y : Nat) (b : UInt8) (hx : x < 65521) : (wrap64 ((x : Int) + wrap64 (b.toNat : Int))).tmod 65521 = ((adlStep (x, y) b).1 : Int) := by
  have hb := b.toNat_lt
  rw [IntWalk.wrap64_in (b.toNat : Int) (by omega), IntWalk.wrap64_in _ (by omega), Int.tmod_eq_emod_of_nonneg (by omega)]
  simp [adlStep]
theorem step_y (x y : Nat) (b : UInt8) (hx : x < 65521) (hy : y < 65521) : (wrap64 ((y : Int) + (wrap64 ((x : Int) + wrap64 (b.toNat : Int))).tmod 65521)).tmod 65521 = ((adlStep (x, y) b).2 : Int) := by
  rw [step_x x y b hx]
  have h : (adlStep (x, y) b).1 < 65521 := Nat.mod_lt _ (by decide)
  rw [IntWalk.wrap64_in _ (by omega), Int.tmod_eq_emod_of_nonneg (by omega)]
  simp [adlStep]
theorem step_y' (x y : Nat) (b : UInt8) (hx : x < 65521) (hy : y < 65521) : (wrap64 ((wrap64 ((x : Int) + wrap64 (b.toNat : Int))).tmod 65521 + (y : Int))).tmod 65521 = ((adlStep (x, y) b).2 : Int) := by
  rw [Int.add_comm]; exact step_y x y b hx hy

set_option maxHeartbeats 1000000 in
set_option maxRecDepth 100000 in
theorem sum_any (s : ByteArray) (w : World) (hs : s.size ≤ 140737488355328) : Calls Try.prog 35 #[.string s] w fun e w' => e = .returned (.int .i64 ((sumN s.data.toList : Nat) : Int)) ∧ w = w' := by
  go_enter Try.func35, Try.ntmps35
  go_wp2_with fail
  go_loopg [3, 4, 5, 8] s.size (fun gg s3 s4 _ s8 wr => ∃ kk : Nat, kk ≤ s.size ∧ s.size - kk ≤ gg ∧ s8 = .int .i64 kk ∧ s3 = .int .i64 ((adl (s.data.toList.take kk)).1 : Int) ∧ s4 = .int .i64 ((adl (s.data.toList.take kk)).2 : Int) ∧ w = wr)
  case atStart => exact ⟨0, Nat.zero_le _, by omega, rfl, rfl, rfl, rfl⟩
  case round =>
    obtain ⟨kk, hkk, hg, rfl, rfl, rfl, rfl⟩ := hrel
    obtain ⟨hx, hy⟩ := adl_small (s.data.toList.take kk)
    by_cases hlt : kk < s.size
    · have hltz : (kk : Int) < (s.size : Int) := by omega
      have hat := adl_take (str_at? s kk hlt)
      generalize adl (s.data.toList.take kk) = p at *
      obtain ⟨x, y⟩ := p
      dsimp only at hx hy hat ⊢
      have hsx := step_x x y s[kk] hx
      have hsy := step_y x y s[kk] hx hy
      have HAT := Lib.hid hat; have HSX := Lib.hid hsx; have HSY := Lib.hid hsy
      clear hat hsx hsy
      go_wp2_with fail
      rw [HSY.out, HSX.out]
      go_roundg (s.size - (kk + 1))
      case measure => omega
      case rel => exact ⟨kk + 1, by omega, by omega, by go_num, by rw [HAT.out], by rw [HAT.out], rfl⟩
    · have hltz : ¬ (kk : Int) < (s.size : Int) := by omega
      obtain rfl : kk = s.size := by omega
      have htl : s.data.toList.take s.size = s.data.toList := List.take_of_length_le (by rw [str_len]; exact Nat.le_refl _)
      rw [htl] at hx hy ⊢
      have hor := bits_or_sum (adl s.data.toList).1 (adl s.data.toList).2 (by omega) (by omega)
      have hres : sumN s.data.toList = (adl s.data.toList).2 * 65536 + (adl s.data.toList).1 := rfl
      generalize adl s.data.toList = p at *
      obtain ⟨x, y⟩ := p
      dsimp only at *
      have HOR := Lib.hid hor; have HRES := Lib.hid hres
      clear hor hres
      go_wp2_with fail
      go_ret
      exact ⟨ret_int (by rw [HRES.out]; have h := HOR.out; rw [IntWalk.i64_in _ (by omega)] at h; exact h), rfl⟩

/-- The seal of bytes. -/
def sealB (l : List UInt8) : List UInt8 := [UInt8.ofNat ((adl l).2 / 256), UInt8.ofNat (adl l).2, UInt8.ofNat ((adl l).1 / 256), UInt8.ofNat (adl l).1]
theorem seal_num (l : List UInt8) : num4 (sumN l) = sealB l := by
  obtain ⟨hx, hy⟩ := adl_small l
  unfold num4 sumN sealB
  have e : ∀ a b : Nat, a % 256 = b % 256 → UInt8.ofNat a = UInt8.ofNat b := fun a b h => UInt8.toNat_inj.1 (by simpa using h)
  rw [e (((adl l).2 * 65536 + (adl l).1) / 16777216) ((adl l).2 / 256) (by omega), e (((adl l).2 * 65536 + (adl l).1) / 65536) (adl l).2 (by omega), e (((adl l).2 * 65536 + (adl l).1) / 256) ((adl l).1 / 256) (by omega), e ((adl l).2 * 65536 + (adl l).1) (adl l).1 (by omega)]

set_option maxHeartbeats 1000000 in
set_option maxRecDepth 100000 in
theorem sealOf_any (s : ByteArray) (w : World) (hs : s.size ≤ 140737488355328) : Calls Try.prog 17 #[.string s] w fun e w' => e = .returned (.string (txt (sealB s.data.toList))) ∧ Below w.heap.size w w' := by
  go_enter Try.func17, Try.ntmps17
  go_wp2_with fail
  go_loopg [3, 4, 5] s.size (fun gg s3 s4 s5 wr => ∃ kk : Nat, kk ≤ s.size ∧ s.size - kk ≤ gg ∧ s5 = .int .i64 kk ∧ s3 = .int .i64 ((adl (s.data.toList.take kk)).1 : Int) ∧ s4 = .int .i64 ((adl (s.data.toList.take kk)).2 : Int) ∧ w = wr)
  case atStart => exact ⟨0, Nat.zero_le _, by omega, rfl, rfl, rfl, rfl⟩
  case round =>
    obtain ⟨kk, hkk, hg, rfl, rfl, rfl, rfl⟩ := hrel
    obtain ⟨hx, hy⟩ := adl_small (s.data.toList.take kk)
    by_cases hlt : kk < s.size
    · have hltz : (kk : Int) < (s.size : Int) := by omega
      have hat := adl_take (str_at? s kk hlt)
      generalize adl (s.data.toList.take kk) = p at *
      obtain ⟨x, y⟩ := p
      dsimp only at hx hy hat ⊢
      have hsx := step_x x y s[kk] hx
      have hsy := step_y' x y s[kk] hx hy
      have HAT := Lib.hid hat; have HSX := Lib.hid hsx; have HSY := Lib.hid hsy
      clear hat hsx hsy
      go_wp2_with fail
      rw [HSY.out, HSX.out]
      go_roundg (s.size - (kk + 1))
      case measure => omega
      case rel => exact ⟨kk + 1, by omega, by omega, by go_num, by rw [HAT.out], by rw [HAT.out], rfl⟩
    · have hltz : ¬ (kk : Int) < (s.size : Int) := by omega
      obtain rfl : kk = s.size := by omega
      have htl : s.data.toList.take s.size = s.data.toList := List.take_of_length_le (by rw [str_len]; exact Nat.le_refl _)
      rw [htl] at hx hy ⊢
      have hres : sealB s.data.toList = [UInt8.ofNat ((adl s.data.toList).2 / 256), UInt8.ofNat (adl s.data.toList).2, UInt8.ofNat ((adl s.data.toList).1 / 256), UInt8.ofNat (adl s.data.toList).1] := rfl
      generalize adl s.data.toList = p at *
      obtain ⟨x, y⟩ := p
      dsimp only at *
      have hcv : (convert 87 9 (.slice (some ⟨w.heap.size, 0, none⟩) 4 4)).run Try.prog (w.alloc (.cells #[.int .u8 ((y : Int) / 256), .int .u8 ((y : Int) % 256), .int .u8 ((x : Int) / 256), .int .u8 ((x : Int) % 256)] 5)) = .ok (.string (txt [UInt8.ofNat (y / 256), UInt8.ofNat y, UInt8.ofNat (x / 256), UInt8.ofNat x])) (w.alloc (.cells #[.int .u8 ((y : Int) / 256), .int .u8 ((y : Int) % 256), .int .u8 ((x : Int) / 256), .int .u8 ((x : Int) % 256)] 5)) := by
        refine run_convert_bytes_back _ 87 9 5 ⟨w.heap.size, 0, none⟩ 4 [UInt8.ofNat (y / 256), UInt8.ofNat y, UInt8.ofNat (x / 256), UInt8.ofNat x] Try.underlying87 Try.underlying5 Try.underlying9 (fun j hj => ?_)
        have hB := Box.made w 5 #[.int .u8 ((y : Int) / 256), .int .u8 ((y : Int) % 256), .int .u8 ((x : Int) / 256), .int .u8 ((x : Int) % 256)]
        rw [Addr.add_lit, Nat.zero_add]
        match j, hj with
        | 0, _ => exact (hB.at_ 0 (.int .u8 ((y : Int) / 256)) rfl).trans (by rw [show (y : Int) / 256 = (y : Int) / 256 % 256 by omega, byte_hi]; rfl)
        | 1, _ => exact (hB.at_ 1 (.int .u8 ((y : Int) % 256)) rfl).trans (by rw [byte_nat]; rfl)
        | 2, _ => exact (hB.at_ 2 (.int .u8 ((x : Int) / 256)) rfl).trans (by rw [show (x : Int) / 256 = (x : Int) / 256 % 256 by omega, byte_hi]; rfl)
        | 3, _ => exact (hB.at_ 3 (.int .u8 ((x : Int) % 256)) rfl).trans (by rw [byte_nat]; rfl)
      have e1 : IntKind.i64.wrap ((y : Int) / 256) = (y : Int) / 256 := IntWalk.i64_in _ (by omega)
      have e2 : ((y : Int)).tmod 256 = (y : Int) % 256 := Int.tmod_eq_emod_of_nonneg (by omega)
      have e3 : IntKind.i64.wrap ((x : Int) / 256) = (x : Int) / 256 := IntWalk.i64_in _ (by omega)
      have e4 : ((x : Int)).tmod 256 = (x : Int) % 256 := Int.tmod_eq_emod_of_nonneg (by omega)
      have HRES := Lib.hid hres
      clear hres
      go_wp2_with fail
      go_ret
      exact ⟨ret_str (by rw [HRES.out]), by go_grown⟩

end Go.Proofs.Ytoejhgbndehaiaa

/- What a log's records are, from the front. Plain facts. -/
namespace Go.Proofs.Ytoejhgbndehaiaa

/-- A number of three bytes. -/
def big3 (a b c : UInt8) : Nat := a.toNat * 65536 + b.toNat * 256 + c.toNat
/-- The first record of a log, and how many bytes it has. -/
def logFirst (err : Record → Int) : List UInt8 → Option (Record × Nat)
  | k :: a :: b :: c :: t =>
    if k ≠ 107 then none
    else if t.length < big3 a b c + 4 then none
    else if sealB (k :: a :: b :: c :: t.take (big3 a b c)) ≠ (t.drop (big3 a b c)).take 4 then none
    else match decRecord err (t.take (big3 a b c)) with
      | .ok r => some (r, big3 a b c + 8)
      | .error _ => none
  | _ => none

/-- So many records at most. -/
def scanN (err : Record → Int) : Nat → List UInt8 → List Record × Nat
  | 0, _ => ([], 0)
  | k + 1, s => match logFirst err s with
    | none => ([], 0)
    | some (r, n) => (r :: (scanN err k (s.drop n)).1, n + (scanN err k (s.drop n)).2)

/-- Some records, one behind the other, from the front. -/
inductive Scanned (err : Record → Int) (s : List UInt8) : List Record → Nat → Prop where
  | start : Scanned err s [] 0
  | next {xs : List Record} {u n : Nat} {r : Record} : Scanned err s xs u → logFirst err (s.drop u) = some (r, n) → Scanned err s (xs ++ [r]) (u + n)

section
variable {err : Record → Int} {s : List UInt8} {xs ys : List Record} {u v : Nat} {r : Record} {n : Nat}
theorem Scanned.runs (h : Scanned err s xs u) : ∀ k, scanN err (xs.length + k) s = (xs ++ (scanN err k (s.drop u)).1, u + (scanN err k (s.drop u)).2) := by
  induction h with
  | start => intro k; simp
  | @next xs u n r _ hf ih =>
    intro k
    have h1 := ih (k + 1)
    rw [List.length_append, List.length_singleton, show xs.length + 1 + k = xs.length + (k + 1) by omega, h1]
    rw [show scanN err (k + 1) (s.drop u) = (r :: (scanN err k ((s.drop u).drop n)).1, n + (scanN err k ((s.drop u).drop n)).2) by rw [scanN, hf]]
    rw [List.drop_drop]
    simp [Nat.add_assoc]
theorem scanN_end (h : logFirst err s = none) : ∀ k, scanN err k s = ([], 0)
  | 0 => rfl
  | k + 1 => by rw [scanN, h]
/-- There is one way. -/
theorem Scanned.same (h : Scanned err s xs u) (he : logFirst err (s.drop u) = none) (k : Scanned err s ys v) (ke : logFirst err (s.drop v) = none) : ys = xs ∧ v = u := by
  have h1 := h.runs ys.length
  have h2 := k.runs xs.length
  rw [scanN_end he] at h1
  rw [scanN_end ke, Nat.add_comm] at h2
  rw [h1] at h2
  injection h2 with h3 h4
  exact ⟨by simpa using h3.symm, by omega⟩
theorem logFirst_more (h : logFirst err s = some (r, n)) : 8 ≤ n ∧ n ≤ s.length := by
  unfold logFirst at h
  split at h
  · rename_i k a b c t
    split at h
    · cases h
    · split at h
      · cases h
      · split at h
        · cases h
        · split at h
          · rename_i hl _ _ _ _
            injection h with h
            injection h with h1 h2
            simp only [List.length_cons]
            omega
          · cases h
  · cases h
end

end Go.Proofs.Ytoejhgbndehaiaa

/- log.first: the first record of a log. -/
namespace Go.Proofs.Ytoejhgbndehaiaa
open Go.RowKit Go.Shelf

/-- What log.first tells. -/
def fstRec (s : ByteArray) : Record := match logFirst recErr s.data.toList with | some (r, _) => r | none => noRecord
def fstLen (s : ByteArray) : Nat := match logFirst recErr s.data.toList with | some (_, n) => n | none => 0
theorem fst_none {s : ByteArray} (h : logFirst recErr s.data.toList = none) : fstRec s = noRecord ∧ fstLen s = 0 := by unfold fstRec fstLen; rw [h]; exact ⟨rfl, rfl⟩
theorem fst_some {s : ByteArray} {r : Record} {n : Nat} (h : logFirst recErr s.data.toList = some (r, n)) : fstRec s = r ∧ fstLen s = n := by unfold fstRec fstLen; rw [h]; exact ⟨rfl, rfl⟩

section
variable {err : Record → Int} {l t : List UInt8} {k a b c : UInt8} {m : Nat}
theorem lf_short (h : l.length < 4) : logFirst err l = none := by
  match l, h with
  | [], _ => rfl
  | [_], _ => rfl
  | [_, _], _ => rfl
  | [_, _, _], _ => rfl
  | _ :: _ :: _ :: _ :: _, h => simp at h; omega
theorem lf_kind (h : k ≠ 107) : logFirst err (k :: a :: b :: c :: t) = none := by unfold logFirst; dsimp only; rw [if_pos h]
theorem lf_long (h : k = 107) (hl : t.length < big3 a b c + 4) : logFirst err (k :: a :: b :: c :: t) = none := by unfold logFirst; dsimp only; rw [if_neg (by simp [h]), if_pos hl]
theorem lf_seal (h : k = 107) (hl : ¬ t.length < big3 a b c + 4) (hs : sealB (k :: a :: b :: c :: t.take (big3 a b c)) ≠ (t.drop (big3 a b c)).take 4) : logFirst err (k :: a :: b :: c :: t) = none := by
  unfold logFirst; dsimp only; rw [if_neg (by simp [h]), if_neg hl, if_pos hs]
theorem lf_bad {e : Int} (h : k = 107) (hl : ¬ t.length < big3 a b c + 4) (hs : sealB (k :: a :: b :: c :: t.take (big3 a b c)) = (t.drop (big3 a b c)).take 4) (hd : decRecord err (t.take (big3 a b c)) = .error e) : logFirst err (k :: a :: b :: c :: t) = none := by
  unfold logFirst; dsimp only; rw [if_neg (by simp [h]), if_neg hl, if_neg (by simp [hs]), hd]
theorem lf_ok {r : Record} (h : k = 107) (hl : ¬ t.length < big3 a b c + 4) (hs : sealB (k :: a :: b :: c :: t.take (big3 a b c)) = (t.drop (big3 a b c)).take 4) (hd : decRecord err (t.take (big3 a b c)) = .ok r) : logFirst err (k :: a :: b :: c :: t) = some (r, big3 a b c + 8) := by
  unfold logFirst; dsimp only; rw [if_neg (by simp [h]), if_neg hl, if_neg (by simp [hs]), hd]
theorem big3_le (a b c : UInt8) : big3 a b c ≤ 16777215 := by
  have := a.toNat_lt; have := b.toNat_lt; have := c.toNat_lt
  unfold big3; omega
end

theorem ext_data (s : ByteArray) (i j : Nat) : (s.extract i j).data.toList = (s.data.toList.take j).drop i := by
  rw [ByteArray.data_extract, Array.toList_extract, List.extract_eq_take_drop, List.drop_take]
theorem four_of {s : ByteArray} (h : ¬ s.size < 4) : ∃ k a b c t, s.data.toList = k :: a :: b :: c :: t ∧ s.size = t.length + 4 := by
  have hl : 4 ≤ s.data.toList.length := by rw [Array.length_toList]; exact Nat.le_of_not_lt h
  have hz : s.size = s.data.toList.length := by rw [Array.length_toList]; rfl
  match hs : s.data.toList, hl with
  | k :: a :: b :: c :: t, _ => exact ⟨k, a, b, c, t, rfl, by rw [hz, hs]; rfl⟩
theorem at_of {s : ByteArray} {i : Nat} {x : UInt8} (hi : i < s.size) (h : s.data.toList[i]? = some x) : s[i]'hi = x := by
  have hl : i < s.data.toList.length := by rw [Array.length_toList]; exact hi
  rw [List.getElem?_eq_getElem hl] at h
  injection h

theorem eqB_list (a b : ByteArray) : eqB a b = (a.toList == b.toList) := by unfold eqB; simp
theorem eqB_no {a b : ByteArray} (h : a ≠ b) : eqB a b = false := by rw [eqB_iff]; simpa using h
abbrev zeroRec : List Value := [.string ⟨#[]⟩, .string ⟨#[]⟩, .slice none 0 0, .slice none 0 0, .slice none 0 0, .slice none 0 0]

set_option maxRecDepth 100000 in
set_option maxHeartbeats 8000000 in
theorem first_any (s : ByteArray) (w : World) (hs : s.size ≤ 140737488355328) :
    Calls Try.prog 16 #[.string s] w fun en w' => ∃ cs : List Value, en = .returned (.tuple #[.agg cs.toArray, .int .i64 (fstLen s : Nat)]) ∧ Below w.heap.size w w' ∧ RecordR w' (fresh w.heap.size w'.heap.size) cs (fstRec s) := by
  by_cases h4 : s.size < 4
  · have hz : (s.size : Int) < 4 := by omega
    obtain ⟨h1, h2⟩ := fst_none (s := s) (lf_short (by rw [Array.length_toList]; exact h4))
    rw [h1, h2]
    clear h1 h2
    go_enter Try.func16, Try.ntmps16
    go_wp2_with fail
    exact bodyPost_ret (v := .tuple #[.agg zeroRec.toArray, .int .i64 0]) (by simp [results, Try.results16, go_sem]) rfl ⟨_, rfl, by go_grown, noRecord_row⟩
  · have g0 : 0 < s.size := by omega
    have g1 : 1 < s.size := by omega
    have g2 : 2 < s.size := by omega
    have g3 : 3 < s.size := by omega
    obtain ⟨k, a, b, c, t, hd, hsz⟩ := four_of h4
    have hz : ¬ (s.size : Int) < 4 := by omega
    have i0 : s[0]'g0 = k := at_of _ (by rw [hd]; rfl)
    have i1 : s[1]'g1 = a := at_of _ (by rw [hd]; rfl)
    have i2 : s[2]'g2 = b := at_of _ (by rw [hd]; rfl)
    have i3 : s[3]'g3 = c := at_of _ (by rw [hd]; rfl)
    have hf0 := fun h => fst_none (s := s) (by rw [hd]; exact lf_kind h)
    have hf1 := fun h hl => fst_none (s := s) (by rw [hd]; exact lf_long h hl)
    have hf2 := fun h hl hq => fst_none (s := s) (by rw [hd]; exact lf_seal h hl hq)
    have hf3 := fun e h hl hq he => fst_none (s := s) (by rw [hd]; exact lf_bad (e := e) h hl hq he)
    have hf4 := fun r h hl hq he => fst_some (s := s) (by rw [hd]; exact lf_ok (r := r) h hl hq he)
    have hm := big3_le a b c
    by_cases hk : k = 107
    · have ha := a.toNat_lt
      have hb := b.toNat_lt
      have hc := c.toNat_lt
      obtain ⟨m, hmm⟩ : ∃ m, big3 a b c = m := ⟨_, rfl⟩
      have hsum : (4 : Int) + (a.toNat : Int) * 65536 + (b.toNat : Int) * 256 + (c.toNat : Int) = ((m + 4 : Nat) : Int) := by rw [← hmm]; unfold big3; omega
      have hkz : ((k.toNat : Int) == 107) = true := by rw [hk]; rfl
      have hkz2 : (k.toNat : Int) = 107 := by rw [hk]; rfl
      rw [hmm] at hf1 hf2 hf3 hf4 hm
      have hl0 : s.data.toList.take (m + 4) = k :: a :: b :: c :: t.take m := by rw [hd]; rfl
      have hl1 : (s.extract 0 (m + 4)).data.toList = k :: a :: b :: c :: t.take m := by rw [ext_data, hl0]; rfl
      have hl2 : (s.extract 4 (m + 4)).data.toList = t.take m := by rw [ext_data, hl0]; rfl
      have hl3 : (s.extract (m + 4) (m + 4 + 4)).data.toList = (t.drop m).take 4 := by
        rw [ext_data, List.drop_take, hd, show m + 4 + 4 - (m + 4) = 4 by omega]; rfl
      obtain ⟨N, hN⟩ : ∃ N, m + 4 = N := ⟨_, rfl⟩
      rw [hN] at hl1 hl2 hl3 hsum
      have hNm : m = N - 4 := by omega
      have hN4 : 4 ≤ N := by omega
      have hNb : N ≤ 16777219 := by omega
      have HN := Lib.hid hN; have HF1 := Lib.hid hf1; have HF2 := Lib.hid hf2; have HF3 := Lib.hid hf3; have HF4 := Lib.hid hf4; have HD := Lib.hid hd; have HSZ := Lib.hid hsz; have HMM := Lib.hid hmm; have HNM := Lib.hid hNm; have HN4 := Lib.hid hN4; have HL1 := Lib.hid hl1; have HL2 := Lib.hid hl2; have HL3 := Lib.hid hl3; have HSUM := Lib.hid hsum
      clear hN hf1 hf2 hf3 hf4 hd hsz hmm hNm hN4 hl1 hl2 hl3 hsum
      clear hf0 hl0
      go_enter Try.func16, Try.ntmps16
      go_upto_region 3 with fail
      go_cut [4] (fun s4 wc => s4 = .int .i64 (N : Int) ∧ Aside (Box wc w.heap.size 33 zeroRec.toArray) ∧ Aside (Below w.heap.size w wc))
      case first =>
        go_quiet (fail)
        go_wp2_with fail
        go_meet
        exact ⟨by rw [HSUM.out], aside ((Box.made _ _ _).drewN _), aside (below_drewN (show Below w.heap.size w _ by go_grown) _)⟩
      case rest =>
        obtain ⟨rfl, hbx, hbl⟩ := hcut
        obtain ⟨w1, rfl⟩ : ∃ W, W = wc := ⟨_, rfl⟩
        have hBx := hbx.out
        simp only [zeroRec] at hBx
        have r0 := hBx.at_ 0 _ rfl
        have r1 := hBx.at_ 1 _ rfl
        have r2 := hBx.at_ 2 _ rfl
        have r3 := hBx.at_ 3 _ rfl
        have r4 := hBx.at_ 4 _ rfl
        have r5 := hBx.at_ 5 _ rfl
        have g0 := hBx.free 0
        have g1 := hBx.free 1
        have g2 := hBx.free 2
        have g3 := hBx.free 3
        have g4 := hBx.free 4
        have g5 := hBx.free 5
        clear i0 i1 i2 i3 hkz hkz2 hBx
        have hdr : Below w1.heap.size w1 w1.drew := by go_grown
        by_cases hlong : t.length < m + 4
        · have hz5 : (s.size : Int) < (N : Int) + 4 := by have := HSZ.out; have := HN.out; omega
          have hzb : decide ((s.size : Int) < (N : Int) + 4) = true := decide_eq_true hz5
          have hd := HF1.out hk hlong
          have HDC := Lib.hid hd
          clear hd
          go_wp2_with fail
          go_region
          all_goals
            go_wp2_with fail
            exact bodyPost_ret (v := .tuple #[.agg zeroRec.toArray, .int .i64 0]) (by simp [results, Try.results16, go_sem, r0, r1, r2, r3, r4, r5]) rfl ⟨_, by rw [HDC.out.2]; rfl, (by first | exact below_resD (below_res hbl.out) | exact below_res (below_resD hbl.out)), by rw [HDC.out.1]; exact noRecord_row⟩
        · have hz5 : ¬ (s.size : Int) < (N : Int) + 4 := by have := HSZ.out; have := HN.out; omega
          have hzb : decide ((s.size : Int) < (N : Int) + 4) = false := decide_eq_false hz5
          have hzd : IntKind.i64.wrap ((N : Int) + 4) = (N : Int) + 4 := IntWalk.i64_in _ (by omega)
          have hze : (0 : Int) ≤ (N : Int) := by omega
          have hzh : (4 : Int) ≤ (N : Int) := by have := HN4.out; omega
          have hzf : (N : Int) ≤ (N : Int) + 4 := by omega
          have hzg : ((N : Int) + 4).toNat = N + 4 := by omega
          have hz6 : (N : Int) ≤ (s.size : Int) := by omega
          have hz7 : (N : Int) + 4 ≤ (s.size : Int) := by omega
          have hx1 : (s.extract 0 N).size ≤ 140737488355328 := by rw [ByteArray.size_extract]; omega
          have hsm := fun U => sum_any (s.extract 0 N) U hx1
          have hsl : sumN (s.extract 0 N).data.toList ≤ 9223372036854775807 := by
            have := adl_small (s.extract 0 N).data.toList
            unfold sumN; omega
          have hdg := fun U => digits_4 (sumN (s.extract 0 N).data.toList) U hsl
          rw [HL1.out] at hsm hdg
          rw [seal_num] at hdg
          obtain ⟨Q, hQ⟩ : ∃ Q, txt (sealB (k :: a :: b :: c :: t.take m)) = Q := ⟨_, rfl⟩
          have hQd : Q.data.toList = sealB (k :: a :: b :: c :: t.take m) := by rw [← hQ, txt_data]
          rw [hQ] at hdg
          obtain ⟨X, hX⟩ : ∃ X, s.extract N (N + 4) = X := ⟨_, rfl⟩
          have hXd : X.data.toList = (t.drop m).take 4 := by rw [← hX]; exact HL3.out
          have hdc := fun U h => decode_any (s.extract 4 N) U h
          generalize (sumN (k :: a :: b :: c :: t.take m)) = S at *
          have HSM := Lib.hid hsm; have HDG := Lib.hid hdg; have HDE := Lib.hid hdc; have HBk := Lib.hid hdr; have HQD := Lib.hid hQd; have HXD := Lib.hid hXd; have HXX := Lib.hid hX
          clear hsm hdg hdc hdr hQd hXd hX
          clear hQ hsl hx1
          have HBX := Lib.hid (show Box w1 w.heap.size 33 #[.string ⟨#[]⟩, .string ⟨#[]⟩, .slice none 0 0, .slice none 0 0, .slice none 0 0, .slice none 0 0] from hbx.out)
          by_cases hQX : Q = X
          · have he1 : (Q.toList == (s.extract N (N + 4)).toList) = true := by rw [HXX.out, hQX]; simp
            have he2 : (Q.toList != (s.extract N (N + 4)).toList) = false := by rw [HXX.out, hQX]; simp
            have hseal : sealB (k :: a :: b :: c :: t.take m) = (t.drop m).take 4 := by rw [← HQD.out, hQX, HXD.out]
            have hx4 : okS (s.extract 4 N) := by unfold okS; rw [ByteArray.size_extract]; omega
            have hde := fun U => HDE.out U hx4
            cases hdd : decRecord recErr (t.take m) with
            | error er =>
              have hne := dec_ne hdd
              obtain ⟨hc1, hc2⟩ := dec_err (s := s.extract 4 N) (by rw [HL2.out]; exact hdd)
              rw [hc1, hc2] at hde
              have hd := HF3.out er hk hlong hseal hdd
              have hez : (er == 0) = false := by simp [hne]
              have hez2 : (er != 0) = true := by simp [hne]
              have HDC := Lib.hid hd
              have HD2 := Lib.hid hde
              clear hd hde hc1 hc2 hdd hseal hQX
              go_wp2_with fail
              go_region_held3 (fun _ => True) (exact trivial)
                (first
                  | (go_at_call 35; (with_reducible refine (HSM.out _).mono ?_); rintro e w7 ⟨rfl, rfl⟩)
                  | (go_at_call 34; (with_reducible refine (HDG.out _).mono ?_); rintro e w7 ⟨rfl, hb7⟩; have hb8 := below_step HBk.out hb7; have HBk := Lib.hid hb8; have hB7 := HBX.out.later hb8 HBX.out.lt; clear r0 r1 r2 r3 r4 r5 g0 g1 g2 g3 g4 g5; have r0 := hB7.at_ 0 _ rfl; have g0 := hB7.free 0; have r1 := hB7.at_ 1 _ rfl; have g1 := hB7.free 1; have r2 := hB7.at_ 2 _ rfl; have g2 := hB7.free 2; have r3 := hB7.at_ 3 _ rfl; have g3 := hB7.free 3; have r4 := hB7.at_ 4 _ rfl; have g4 := hB7.free 4; have r5 := hB7.at_ 5 _ rfl; have g5 := hB7.free 5; clear hb7 hb8 hB7))
              all_goals
                go_wp2_with fail
                with_reducible refine (HD2.out _).mono ?_
                rintro e w8 ⟨cs, rfl, hb8, hr8⟩
                obtain ⟨I1, i1, T1, e1, T2, e2, D1, d1, rfl, _⟩ := hr8.parts
                dsimp only [noRecord, List.length_nil]
                have hbw := hbl.out.trans (HBk.out.mono hbl.out.size)
                have hbw8 := hbw.trans (hb8.mono hbw.size)
                have hB8 := (HBX.out.later HBk.out HBX.out.lt).later hb8 (HBX.out.later HBk.out HBX.out.lt).lt
                clear r0 r1 r2 r3 r4 r5 g0 g1 g2 g3 g4 g5
                have HBW := Lib.hid hbw8; have HB8 := Lib.hid hB8
                clear hbw8 hB8
                clear hb8 hbw hr8
                go_upto_region 7 with fail
                have hBc := Box.made w8 33 #[.string ⟨#[]⟩, .string ⟨#[]⟩, .slice I1 0 i1, .slice T1 0 e1, .slice T2 0 e2, .slice D1 0 d1]
                have hbc : Below w8.heap.size w8 (w8.alloc (.cells #[.string ⟨#[]⟩, .string ⟨#[]⟩, .slice I1 0 i1, .slice T1 0 e1, .slice T2 0 e2, .slice D1 0 d1] 33)) := by go_grown
                have hzc : (w8.alloc (.cells #[.string ⟨#[]⟩, .string ⟨#[]⟩, .slice I1 0 i1, .slice T1 0 e1, .slice T2 0 e2, .slice D1 0 d1] 33)).heap.size = w8.heap.size + 1 := by simp
                generalize w8.alloc (.cells #[.string ⟨#[]⟩, .string ⟨#[]⟩, .slice I1 0 i1, .slice T1 0 e1, .slice T2 0 e2, .slice D1 0 d1] 33) = W9 at hBc hbc hzc ⊢
                have hB9 := HB8.out.later hbc HB8.out.lt
                have hbw9 := HBW.out.trans (hbc.mono HBW.out.size)
                have r0 := hB9.at_ 0 _ rfl
                have r1 := hB9.at_ 1 _ rfl
                have r2 := hB9.at_ 2 _ rfl
                have r3 := hB9.at_ 3 _ rfl
                have r4 := hB9.at_ 4 _ rfl
                have r5 := hB9.at_ 5 _ rfl
                have g0 := hB9.free 0
                have g1 := hB9.free 1
                have g2 := hB9.free 2
                have g3 := hB9.free 3
                have g4 := hB9.free 4
                have g5 := hB9.free 5
                have HBW9 := Lib.hid hbw9
                clear hbw9
                clear hB9 hBc hbc hzc
                go_wp2_with fail
                exact bodyPost_ret (v := .tuple #[.agg zeroRec.toArray, .int .i64 0]) (by simp [results, Try.results16, go_sem, r0, r1, r2, r3, r4, r5]) rfl ⟨_, by rw [HDC.out.2]; rfl, below_res HBW9.out, by rw [HDC.out.1]; exact noRecord_row⟩
            | ok R =>
              obtain ⟨hc1, hc2⟩ := dec_rec (s := s.extract 4 N) (by rw [HL2.out]; exact hdd)
              rw [hc1, hc2] at hde
              have hd := HF4.out R hk hlong hseal hdd
              have HDC := Lib.hid hd
              have HD2 := Lib.hid hde
              clear hd hde hc1 hc2 hdd hseal hQX
              go_wp2_with fail
              go_region_held3 (fun _ => True) (exact trivial)
                (first
                  | (go_at_call 35; (with_reducible refine (HSM.out _).mono ?_); rintro e w7 ⟨rfl, rfl⟩)
                  | (go_at_call 34; (with_reducible refine (HDG.out _).mono ?_); rintro e w7 ⟨rfl, hb7⟩; have hb8 := below_step HBk.out hb7; have HBk := Lib.hid hb8; have hB7 := HBX.out.later hb8 HBX.out.lt; clear r0 r1 r2 r3 r4 r5 g0 g1 g2 g3 g4 g5; have r0 := hB7.at_ 0 _ rfl; have g0 := hB7.free 0; have r1 := hB7.at_ 1 _ rfl; have g1 := hB7.free 1; have r2 := hB7.at_ 2 _ rfl; have g2 := hB7.free 2; have r3 := hB7.at_ 3 _ rfl; have g3 := hB7.free 3; have r4 := hB7.at_ 4 _ rfl; have g4 := hB7.free 4; have r5 := hB7.at_ 5 _ rfl; have g5 := hB7.free 5; clear hb7 hb8 hB7))
              all_goals
                go_wp2_with fail
                with_reducible refine (HD2.out _).mono ?_
                rintro e w8 ⟨cs, rfl, hb8, hr8⟩
                obtain ⟨I1, i1, T1, e1, T2, e2, D1, d1, rfl, _⟩ := hr8.parts
                have hbw := hbl.out.trans (HBk.out.mono hbl.out.size)
                have hbw8 := hbw.trans (hb8.mono hbw.size)
                have hB8 := (HBX.out.later HBk.out HBX.out.lt).later hb8 (HBX.out.later HBk.out HBX.out.lt).lt
                have hw7 := hbw.size
                clear r0 r1 r2 r3 r4 r5 g0 g1 g2 g3 g4 g5
                have HBW := Lib.hid hbw8; have HR8 := Lib.hid hr8; have HB8 := Lib.hid hB8
                clear hbw8 hr8 hB8
                clear hb8 hbw
                go_upto_region 7 with fail
                have hBc := Box.made w8 33 #[.string R.name, .string R.source, .slice I1 R.imports.length i1, .slice T1 R.face.types.length e1, .slice T2 R.face.funcs.length e2, .slice D1 R.diags.length d1]
                have hbc : Below w8.heap.size w8 (w8.alloc (.cells #[.string R.name, .string R.source, .slice I1 R.imports.length i1, .slice T1 R.face.types.length e1, .slice T2 R.face.funcs.length e2, .slice D1 R.diags.length d1] 33)) := by go_grown
                have hzc : (w8.alloc (.cells #[.string R.name, .string R.source, .slice I1 R.imports.length i1, .slice T1 R.face.types.length e1, .slice T2 R.face.funcs.length e2, .slice D1 R.diags.length d1] 33)).heap.size = w8.heap.size + 1 := by simp
                generalize w8.alloc (.cells #[.string R.name, .string R.source, .slice I1 R.imports.length i1, .slice T1 R.face.types.length e1, .slice T2 R.face.funcs.length e2, .slice D1 R.diags.length d1] 33) = W9 at hBc hbc hzc ⊢
                have hB9 := HB8.out.later hbc HB8.out.lt
                have hr9 := RecordR.stays.later HR8.out hbc fresh_lt
                have hbw9 := HBW.out.trans (hbc.mono HBW.out.size)
                have hlt7 : w.heap.size < w7.heap.size := Nat.lt_of_lt_of_le (HBX.out.lt) HBk.out.size
                have hz9 := hbc.size
                have r0 := hB9.at_ 0 _ rfl
                have r1 := hB9.at_ 1 _ rfl
                have r2 := hB9.at_ 2 _ rfl
                have r3 := hB9.at_ 3 _ rfl
                have r4 := hB9.at_ 4 _ rfl
                have r5 := hB9.at_ 5 _ rfl
                have g0 := hB9.free 0
                have g1 := hB9.free 1
                have g2 := hB9.free 2
                have g3 := hB9.free 3
                have g4 := hB9.free 4
                have g5 := hB9.free 5
                have y0 := hBc.at_ 0 _ rfl
                have y1 := hBc.at_ 1 _ rfl
                have y2 := hBc.at_ 2 _ rfl
                have y3 := hBc.at_ 3 _ rfl
                have y4 := hBc.at_ 4 _ rfl
                have y5 := hBc.at_ 5 _ rfl
                have HR9 := Lib.hid hr9; have HBW9 := Lib.hid hbw9; have HZ9 := Lib.hid hz9
                clear hr9 hbw9 hz9
                clear hB9 hBc hbc hzc
                go_wp2_with fail
                have hz9 := HZ9.out
                have hlo : ∀ i, ¬ fresh w7.heap.size w8.heap.size (⟨w.heap.size, i, none⟩ : Addr).block := fun i => fresh_no hlt7
                exact bodyPost_ret (v := .tuple #[.agg #[.string R.name, .string R.source, .slice I1 R.imports.length i1, .slice T1 R.face.types.length e1, .slice T2 R.face.funcs.length e2, .slice D1 R.diags.length d1], .int .i64 ((N : Int) + 4)]) (by simp [results, Try.results16, go_sem, r0, r1, r2, r3, r4, r5]) rfl ⟨_, by
                  rw [HDC.out.2, ← HN.out, show ((m + 4 : Nat) : Int) + 4 = ((m + 8 : Nat) : Int) by omega], below_res HBW9.out, by
                  rw [HDC.out.1]
                  exact RecordR.stays _ _ _ _ _ _ HR9.out (fresh_up (by omega) (by simp only [size_set]; exact hz9)) (((((((Keeps.refl _ _).setCell (hlo _) _).setCell (hlo _) _).setCell (hlo _) _).setCell (hlo _) _).setCell (hlo _) _).setCell (hlo _) _)⟩
          · have he1 : (Q.toList == (s.extract N (N + 4)).toList) = false := by rw [HXX.out, ← eqB_list]; exact eqB_no hQX
            have he2 : (Q.toList != (s.extract N (N + 4)).toList) = true := by simp only [bne, he1]; rfl
            have hd := HF2.out hk hlong (fun h => hQX (ba_ext (by rw [HQD.out, HXD.out, h])))
            have HDC := Lib.hid hd
            clear hd hQX
            go_wp2_with fail
            go_region_held3 (fun _ => True) (exact trivial)
              (first
                | (go_at_call 35; (with_reducible refine (HSM.out _).mono ?_); rintro e w7 ⟨rfl, rfl⟩)
                | (go_at_call 34; (with_reducible refine (HDG.out _).mono ?_); rintro e w7 ⟨rfl, hb7⟩; have hb8 := below_step HBk.out hb7; have HBk := Lib.hid hb8; have hB7 := HBX.out.later hb8 HBX.out.lt; clear r0 r1 r2 r3 r4 r5 g0 g1 g2 g3 g4 g5; have r0 := hB7.at_ 0 _ rfl; have g0 := hB7.free 0; have r1 := hB7.at_ 1 _ rfl; have g1 := hB7.free 1; have r2 := hB7.at_ 2 _ rfl; have g2 := hB7.free 2; have r3 := hB7.at_ 3 _ rfl; have g3 := hB7.free 3; have r4 := hB7.at_ 4 _ rfl; have g4 := hB7.free 4; have r5 := hB7.at_ 5 _ rfl; have g5 := hB7.free 5; clear hb7 hb8 hB7))
            all_goals
              go_wp2_with fail
              have hbw := hbl.out.trans (HBk.out.mono hbl.out.size)
              exact bodyPost_ret (v := .tuple #[.agg zeroRec.toArray, .int .i64 0]) (by simp [results, Try.results16, go_sem, r0, r1, r2, r3, r4, r5]) rfl ⟨_, by rw [HDC.out.2]; rfl, below_res hbw, by rw [HDC.out.1]; exact noRecord_row⟩
    · obtain ⟨h1, h2⟩ := hf0 hk
      rw [h1, h2]
      have hkz : (k.toNat : Int) ≠ 107 := fun h => hk (UInt8.toNat.inj (by have : (107 : UInt8).toNat = 107 := rfl; omega))
      have hkz2 : ((k.toNat : Int) == 107) = false := by simpa using hkz
      clear h1 h2 hf0 hf1 hf2 hf3 hf4 hd hk hsz hm
      go_enter Try.func16, Try.ntmps16
      go_wp2_with fail
      exact bodyPost_ret (v := .tuple #[.agg zeroRec.toArray, .int .i64 0]) (by simp [results, Try.results16, go_sem]) rfl ⟨_, rfl, by go_grown, noRecord_row⟩

end Go.Proofs.Ytoejhgbndehaiaa

/- log.Scan: the records of a log, from the front. -/
namespace Go.Proofs.Ytoejhgbndehaiaa
open Go.RowKit Go.Shelf

theorem RecordR.lat {w w' : World} {n m : Nat} {cs : List Value} {r : Record} (h : RecordR w (fresh n m) cs r) (hb : Below w.heap.size w w') (hm : m ≤ w.heap.size) : RecordR w' (fresh n m) cs r :=
  RecordR.stays _ _ _ _ _ _ h (fun _ h => h) (Keeps.of_below hb fun k hk => Nat.lt_of_lt_of_le hk.2 hm)

set_option maxRecDepth 100000 in
set_option maxHeartbeats 8000000 in
theorem scan_any (s : ByteArray) (w : World) (hs : s.size ≤ 1048576) :
    Calls Try.prog 6 #[.string s] w fun en w' => ∃ (A : Option Addr) (c : Nat) (xs : List Record) (u : Nat), en = .returned (.tuple #[.slice A xs.length c, .int .i64 u]) ∧ Below w.heap.size w w' ∧
      SliceOf RecordR 6 128 w' (fresh w.heap.size w'.heap.size) (.slice A xs.length c) xs ∧ Scanned recErr s.data.toList xs u ∧ logFirst recErr (s.data.toList.drop u) = none := by
  have hsl : s.size = s.data.toList.length := by rw [Array.length_toList]; rfl
  have HSL := Lib.hid hsl; clear hsl
  go_enter Try.func6, Try.ntmps6
  go_wp2_with fail
  go_loopg [4, 5, 6, 7] s.size (fun gg s4 s5 s6 s7 wr => ∃ (A : Option Addr) (k c : Nat) (xs : List Record) (F : Foot) (u : Nat), s4 = .slice A k c ∧ s5 = .int .i64 u ∧ u ≤ s.size ∧ s.size - u ≤ gg ∧ Aside (k = xs.length ∧ xs.length ≤ u ∧ ∀ j, F j → w.heap.size ≤ j) ∧
    Aside (Owns RecordR 6 33 w.heap.size wr F (.slice A k c) xs) ∧ Aside (Below w.heap.size w wr) ∧ Aside (Scanned recErr s.data.toList xs u))
  case atStart => exact ⟨none, 0, 0, [], none_, 0, rfl, rfl, Nat.zero_le _, by omega, aside ⟨rfl, Nat.le_refl _, fun _ h => h.elim⟩, aside Owns.nil_, aside (Below.refl _ _), aside .start⟩
  case round =>
    obtain ⟨A, k, c, xs, F, u, rfl, rfl, hu, hg, hk, hO, hB, hS⟩ := hrel
    obtain ⟨wo, rfl⟩ : ∃ W, W = wr := ⟨_, rfl⟩
    have hx : (s.extract u s.size).size ≤ 140737488355328 := by rw [ByteArray.size_extract]; omega
    have hf := first_any (s.extract u s.size) wo hx
    have hd : (s.extract u s.size).data.toList = s.data.toList.drop u := rest_data s u
    have hu1 : (u : Int) ≤ (s.size : Int) := by omega
    have hu2 : (0 : Int) ≤ (u : Int) := by omega
    obtain rfl : k = xs.length := hk.out.1
    cases hlf : logFirst recErr (s.data.toList.drop u) with
    | none =>
      obtain ⟨h1, h2⟩ := fst_none (s := s.extract u s.size) (by rw [hd]; exact hlf)
      rw [h1, h2] at hf
      have HF := Lib.hid hf
      have HLF := Lib.hid hlf
      clear hf hd hx h1 h2 hlf
      go_wp2_with fail
      refine HF.out.mono ?_
      rintro e w2 ⟨cs, rfl, hb2, hr2⟩
      obtain ⟨I1, i1, T1, e1, T2, e2, D1, d1, rfl, _⟩ := hr2.parts
      have hbw := hB.out.trans (hb2.mono hB.out.size)
      have hO2 := hO.out.below RecordR.stays hb2
      clear hr2 hb2
      dsimp only [noRecord, List.length_nil]
      have HBW := Lib.hid hbw; have HO2 := Lib.hid hO2
      clear hbw hO2
      go_upto_region 4 with fail
      have hBc := Box.made w2 33 #[.string ⟨#[]⟩, .string ⟨#[]⟩, .slice I1 0 i1, .slice T1 0 e1, .slice T2 0 e2, .slice D1 0 d1]
      have hbc : Below w2.heap.size w2 (w2.alloc (.cells #[.string ⟨#[]⟩, .string ⟨#[]⟩, .slice I1 0 i1, .slice T1 0 e1, .slice T2 0 e2, .slice D1 0 d1] 33)) := by go_grown
      have hzc : (w2.alloc (.cells #[.string ⟨#[]⟩, .string ⟨#[]⟩, .slice I1 0 i1, .slice T1 0 e1, .slice T2 0 e2, .slice D1 0 d1] 33)).heap.size = w2.heap.size + 1 := by simp
      generalize w2.alloc (.cells #[.string ⟨#[]⟩, .string ⟨#[]⟩, .slice I1 0 i1, .slice T1 0 e1, .slice T2 0 e2, .slice D1 0 d1] 33) = W3 at hBc hbc hzc ⊢
      have hbw3 := HBW.out.trans (hbc.mono HBW.out.size)
      have hO3 := HO2.out.below RecordR.stays hbc
      have HBW3 := Lib.hid hbw3; have HO3 := Lib.hid hO3
      clear hbw3 hO3
      clear hBc hbc hzc
      go_wp2_with fail
      go_ret2
      exact ⟨A, c, xs, u, rfl, HBW3.out, HO3.out.slice RecordR.stays (fun j hj => ⟨hk.out.2.2 j hj, (HO3.out.foot hj).1⟩) (fun j h1 h2 => ⟨h1, h2⟩) (by have := hk.out.2.1; omega) (by have := hk.out.2.1; omega), hS.out, HLF.out⟩
    | some a =>
      obtain ⟨r, n⟩ := a
      obtain ⟨h1, h2⟩ := fst_some (s := s.extract u s.size) (by rw [hd]; exact hlf)
      rw [h1, h2] at hf
      obtain ⟨hn8, hnl⟩ := logFirst_more hlf
      rw [List.length_drop, ← HSL.out] at hnl
      have hS2 := hS.out.next hlf
      have hnz : ((n : Int) == 0) = false := by simp; omega
      have HF := Lib.hid hf; have HS2 := Lib.hid hS2
      clear hf hS2
      clear hd hx h1 h2 hlf
      go_wp2_with fail
      refine HF.out.mono ?_
      rintro e w2 ⟨cs, rfl, hb2, hr2⟩
      obtain ⟨I1, i1, T1, e1, T2, e2, D1, d1, rfl, _⟩ := hr2.parts
      have hbw := hB.out.trans (hb2.mono hB.out.size)
      have hO2 := hO.out.below RecordR.stays hb2
      have hz2 := hb2.size
      have HBW := Lib.hid hbw; have HO2 := Lib.hid hO2; have HR2 := Lib.hid hr2; have HZ2 := Lib.hid hz2
      clear hbw hO2 hr2 hz2
      clear hb2
      go_upto_region 4 with fail
      have hBc := Box.made w2 33 #[.string r.name, .string r.source, .slice I1 r.imports.length i1, .slice T1 r.face.types.length e1, .slice T2 r.face.funcs.length e2, .slice D1 r.diags.length d1]
      have hbc : Below w2.heap.size w2 (w2.alloc (.cells #[.string r.name, .string r.source, .slice I1 r.imports.length i1, .slice T1 r.face.types.length e1, .slice T2 r.face.funcs.length e2, .slice D1 r.diags.length d1] 33)) := by go_grown
      have hzc : (w2.alloc (.cells #[.string r.name, .string r.source, .slice I1 r.imports.length i1, .slice T1 r.face.types.length e1, .slice T2 r.face.funcs.length e2, .slice D1 r.diags.length d1] 33)).heap.size = w2.heap.size + 1 := by simp
      generalize w2.alloc (.cells #[.string r.name, .string r.source, .slice I1 r.imports.length i1, .slice T1 r.face.types.length e1, .slice T2 r.face.funcs.length e2, .slice D1 r.diags.length d1] 33) = W3 at hBc hbc hzc ⊢
      have hbw3 := HBW.out.trans (hbc.mono HBW.out.size)
      have hO3 := HO2.out.below RecordR.stays hbc
      have hr3 := HR2.out.lat hbc (Nat.le_refl _)
      have hz3 := hbc.size
      have hB0 := hB.out.size
      have y0 := hBc.at_ 0 _ rfl
      have y1 := hBc.at_ 1 _ rfl
      have y2 := hBc.at_ 2 _ rfl
      have y3 := hBc.at_ 3 _ rfl
      have y4 := hBc.at_ 4 _ rfl
      have y5 := hBc.at_ 5 _ rfl
      have HBW3 := Lib.hid hbw3; have HO3 := Lib.hid hO3; have HR3 := Lib.hid hr3; have HZ3 := Lib.hid hz3; have HB0 := Lib.hid hB0
      clear hbw3 hO3 hr3 hz3 hB0
      clear hBc hbc hzc
      go_wp2_with (at_builtin; go_must ((refine wpList_push RecordR.stays (.agg zeroRec.toArray) [.string r.name, .string r.source, .slice I1 r.imports.length i1, .slice T1 r.face.types.length e1, .slice T2 r.face.funcs.length e2, .slice D1 r.diags.length d1] r rfl rfl Try.underlying22 (bytes := 128) (by kernel_rfl) HO3.out rfl rfl (by decide) rfl rfl (G := fresh wo.heap.size w2.heap.size) HR3.out (by intro u hu; simp at hu; rcases hu with rfl | rfl | rfl | rfl | rfl | rfl <;> rfl) (fun k hk => ⟨by have := hk.2; have := HZ3.out; omega, fun e => by have h1 := hk.1; have := (hO.out.row e.symm).2; omega⟩) (by unfold maxLen; have := hk.out.2.1; omega) (by have := hk.out.2.1; omega) (by have := HZ3.out; have := HZ2.out; have := HB0.out; omega) ?_); (intro A14 c14 w14 hO14 hgr14 hloc14; have hb14 := HBW3.out.trans (hgr14.below (Nat.le_refl _) HBW3.out.size); have HO14 := Lib.hid hO14; have HB14 := Lib.hid hb14; clear hO14 hgr14 hloc14 hb14)))
      go_roundg (s.size - (u + n))
      case measure => omega
      case rel =>
        have hFl : ∀ j, (F j ∨ fresh wo.heap.size w2.heap.size j) → w.heap.size ≤ j := fun j hj => hj.elim (hk.out.2.2 j) (fun h => by have := h.1; have := HB0.out; omega)
        exact ⟨A14, xs.length + 1, c14, xs ++ [r], _, u + n, rfl, by go_num, by omega, by omega, aside ⟨by simp, by have := hk.out.2.1; simp; omega, hFl⟩, aside HO14.out, aside HB14.out, aside HS2.out⟩

end Go.Proofs.Ytoejhgbndehaiaa

/- The reference's scan of a log: ScannedOf. -/
namespace Go.Proofs.Ytoejhgbndehaiaa
open Go.RowKit Go.Shelf

theorem lf_eight {err : Record → Int} {l : List UInt8} (h : l.length < 8) : logFirst err l = none := by
  match l, h with
  | [], _ => rfl
  | [_], _ => rfl
  | [_, _], _ => rfl
  | [_, _, _], _ => rfl
  | k :: a :: b :: c :: t, h =>
    by_cases hk : k = 107
    · exact lf_long hk (by simp at h; omega)
    · exact lf_kind hk

/-- What ScannedOf tells. -/
def ScanTo (s : ByteArray) (w : World) (en : Ending) (w' : World) : Prop := ∃ (A : Option Addr) (c : Nat) (xs : List Record) (u : Nat), en = .returned (.tuple #[.slice A xs.length c, .int .i64 u]) ∧ Below w.heap.size w w' ∧
      SliceOf RecordR 6 128 w' (fresh w.heap.size w'.heap.size) (.slice A xs.length c) xs ∧ Scanned recErr s.data.toList xs u ∧ logFirst recErr (s.data.toList.drop u) = none

theorem scanTo_of {s : ByteArray} {w W : World} {A : Option Addr} {c u : Nat} {xs : List Record} {F : Foot} (hs : s.size ≤ 1048576) (hu : u ≤ s.size) (hxu : xs.length ≤ u) (hF : ∀ j, F j → w.heap.size ≤ j) (hO : Owns RecordR 6 33 w.heap.size W F (.slice A xs.length c) xs) (hB : Below w.heap.size w W)
    (hS : Scanned recErr s.data.toList xs u) (hl : logFirst recErr (s.data.toList.drop u) = none) : ScanTo s w (.returned (.tuple #[.slice A xs.length c, .int .i64 u])) W :=
  ⟨A, c, xs, u, rfl, hB, hO.slice RecordR.stays (fun j hj => ⟨hF j hj, (hO.foot hj).1⟩) (fun j h1 h2 => ⟨h1, h2⟩) (by omega) (by omega), hS, hl⟩

set_option maxRecDepth 100000 in
set_option maxHeartbeats 8000000 in
theorem scannedOf_any (s : ByteArray) (w : World) (hs : s.size ≤ 1048576) :
    Calls Try.prog 7 #[.string s] w (ScanTo s w) := by
  have hsl : s.size = s.data.toList.length := by rw [Array.length_toList]; rfl
  have HSL := Lib.hid hsl; clear hsl
  go_enter Try.func7, Try.ntmps7
  go_wp2_with fail
  go_loopg [4, 5, 6, 7, 8, 9] s.size (fun gg s4 s5 s6 s7 s8 s9 wr => ∃ (A : Option Addr) (k c : Nat) (xs : List Record) (F : Foot) (u : Nat), s4 = .slice A k c ∧ s5 = .int .i64 u ∧ u ≤ s.size ∧ s.size - u ≤ gg ∧ Aside (k = xs.length ∧ xs.length ≤ u ∧ ∀ j, F j → w.heap.size ≤ j) ∧
    Aside (Owns RecordR 6 33 w.heap.size wr F (.slice A k c) xs) ∧ Aside (Below w.heap.size w wr) ∧ Aside (Scanned recErr s.data.toList xs u))
  case atStart => exact ⟨none, 0, 0, [], none_, 0, rfl, rfl, Nat.zero_le _, by omega, aside ⟨rfl, Nat.le_refl _, fun _ h => h.elim⟩, aside Owns.nil_, aside (Below.refl _ _), aside .start⟩
  case round =>
    obtain ⟨A, k, c, xs, F, u, rfl, rfl, hu, hg, hk, hO, hB, hS⟩ := hrel
    obtain ⟨wo, rfl⟩ : ∃ W, W = wr := ⟨_, rfl⟩
    obtain ⟨T, hT⟩ : ∃ T, s.extract u s.size = T := ⟨_, rfl⟩
    have hTz : T.size + u = s.size := by rw [← hT, ByteArray.size_extract]; omega
    have hTs : T.size ≤ 1048576 := by omega
    have hTd : T.data.toList = s.data.toList.drop u := by rw [← hT]; exact rest_data s u
    have hu1 : (u : Int) ≤ (s.size : Int) := by omega
    have hu2 : (0 : Int) ≤ (u : Int) := by omega
    obtain rfl : k = xs.length := hk.out.1
    have hend := fun W (hO : Owns RecordR 6 33 w.heap.size W F (.slice A xs.length c) xs) hB hl => scanTo_of (W := W) hs hu hk.out.2.1 hk.out.2.2 hO hB hS.out hl
    rw [← hTd] at hend
    have HEND := Lib.hid hend; have HTZ := Lib.hid hTz
    clear hend hTz
    by_cases h8 : T.size < 8
    · have hz8 : (T.size : Int) < 8 := by omega
      have hl := lf_eight (err := recErr) (l := T.data.toList) (by rw [Array.length_toList]; exact h8)
      have HL := Lib.hid hl; have HTD := Lib.hid hTd
      clear hl hTd
      go_wp2_with fail
      go_ret2
      exact HEND.out _ hO.out hB.out HL.out
    · have hz8 : ¬ (T.size : Int) < 8 := by omega
      have g0 : 0 < T.size := by omega
      have g1 : 1 < T.size := by omega
      have g2 : 2 < T.size := by omega
      have g3 : 3 < T.size := by omega
      obtain ⟨kk, a, b, cc, t, hd, hsz⟩ := four_of (s := T) (by omega)
      have i0 : T[0]'g0 = kk := at_of _ (by rw [hd]; rfl)
      have i1 : T[1]'g1 = a := at_of _ (by rw [hd]; rfl)
      have i2 : T[2]'g2 = b := at_of _ (by rw [hd]; rfl)
      have i3 : T[3]'g3 = cc := at_of _ (by rw [hd]; rfl)
      by_cases hkk : kk = 107
      · have ha := a.toNat_lt
        have hb := b.toNat_lt
        have hc := cc.toNat_lt
        obtain ⟨m, hmm⟩ : ∃ m, big3 a b cc = m := ⟨_, rfl⟩
        have hm := big3_le a b cc
        rw [hmm] at hm
        have hsum : (4 : Int) + 65536 * (a.toNat : Int) + 256 * (b.toNat : Int) + (cc.toNat : Int) = ((m + 4 : Nat) : Int) := by rw [← hmm]; unfold big3; omega
        have hkz : ((kk.toNat : Int) == 107) = true := by rw [hkk]; rfl
        have hkz2 : (kk.toNat : Int) = 107 := by rw [hkk]; rfl
        have hl0 : T.data.toList.take (m + 4) = kk :: a :: b :: cc :: t.take m := by rw [hd]; rfl
        have hl1 : (T.extract 0 (m + 4)).data.toList = kk :: a :: b :: cc :: t.take m := by rw [ext_data, hl0]; rfl
        have hl2 : (T.extract 4 (m + 4)).data.toList = t.take m := by rw [ext_data, hl0]; rfl
        have hl3 : (T.extract (m + 4) (m + 4 + 4)).data.toList = (t.drop m).take 4 := by
          rw [ext_data, List.drop_take, hd, show m + 4 + 4 - (m + 4) = 4 by omega]; rfl
        have hf1 := fun hl => lf_long (err := recErr) (a := a) (b := b) (c := cc) (t := t) hkk hl
        have hf2 := fun hl hq => lf_seal (err := recErr) (a := a) (b := b) (c := cc) (t := t) hkk hl hq
        have hf3 := fun e hl hq he => lf_bad (err := recErr) (a := a) (b := b) (c := cc) (t := t) (e := e) hkk hl hq he
        have hf4 := fun r hl hq he => lf_ok (err := recErr) (a := a) (b := b) (c := cc) (t := t) (r := r) hkk hl hq he
        rw [hmm, ← hd] at hf1 hf2 hf3 hf4
        obtain ⟨N, hN⟩ : ∃ N, m + 4 = N := ⟨_, rfl⟩
        rw [hN] at hl1 hl2 hl3 hsum
        have hN4 : 4 ≤ N := by omega
        have hNb : N ≤ 16777219 := by omega
        have HN := Lib.hid hN; have HF1 := Lib.hid hf1; have HF2 := Lib.hid hf2; have HF3 := Lib.hid hf3; have HF4 := Lib.hid hf4; have HD := Lib.hid hd; have HSZ := Lib.hid hsz; have HMM := Lib.hid hmm; have HL1 := Lib.hid hl1; have HL2 := Lib.hid hl2; have HL3 := Lib.hid hl3; have HSUM := Lib.hid hsum; have HN4 := Lib.hid hN4; have HTD := Lib.hid hTd
        clear hN hf1 hf2 hf3 hf4 hd hsz hmm hl1 hl2 hl3 hsum hN4 hTd
        clear hl0
        go_upto_region 6 with fail
        go_cut [7] (fun s7 wc => s7 = .int .i64 (N : Int) ∧ Aside (Below wo.heap.size wo wc))
        case first =>
          go_quiet (fail)
          go_wp2_with fail
          go_meet
          exact ⟨by rw [← HSUM.out], aside (below_drewN (Below.refl _ _) _)⟩
        case rest =>
          obtain ⟨rfl, hbl⟩ := hcut
          obtain ⟨w1, rfl⟩ : ∃ W, W = wc := ⟨_, rfl⟩
          have hO1 := hO.out.below RecordR.stays hbl.out
          have hbw := hB.out.trans (hbl.out.mono hB.out.size)
          have hdr : Below w1.heap.size w1 w1.drew := by go_grown
          have hzd : IntKind.i64.wrap ((N : Int) + 4) = (N : Int) + 4 := IntWalk.i64_in _ (by omega)
          clear i0 i1 i2 i3 hkz hkz2
          by_cases hlong : t.length < m + 4
          · have hz5 : (T.size : Int) < (N : Int) + 4 := by have := HSZ.out; have := HN.out; omega
            have hz6 : (N : Int) + 4 > (T.size : Int) := hz5
            have hzb : decide ((N : Int) + 4 > (T.size : Int)) = true := decide_eq_true hz6
            have hl := HF1.out hlong
            have HL := Lib.hid hl; have HO1 := Lib.hid hO1; have HBW := Lib.hid hbw; have HDR := Lib.hid hdr
            clear hl hO1 hbw hdr
            clear hlong
            go_wp2_with fail
            go_region
            all_goals
              (try go_wp2_with fail)
              go_ret2
              first
                | exact HEND.out _ HO1.out HBW.out HL.out
                | exact HEND.out _ (HO1.out.below RecordR.stays HDR.out) (HBW.out.trans (HDR.out.mono HBW.out.size)) HL.out
          · have hz5 : (N : Int) + 4 ≤ (T.size : Int) := by have := HSZ.out; have := HN.out; omega
            have hz6 : ¬ (N : Int) + 4 > (T.size : Int) := by omega
            have hzb : decide ((N : Int) + 4 > (T.size : Int)) = false := decide_eq_false hz6
            have hzb2 : decide ((T.size : Int) < (N : Int) + 4) = false := decide_eq_false (by omega)
            have hze : (0 : Int) ≤ (N : Int) := by omega
            have hzh : (4 : Int) ≤ (N : Int) := by have := HN4.out; omega
            have hzf : (N : Int) ≤ (N : Int) + 4 := by omega
            have hzg : ((N : Int) + 4).toNat = N + 4 := by omega
            have hzi : (N : Int) ≤ (T.size : Int) := by omega
            have hx1 : (T.extract 0 N).size ≤ 140737488355328 := by rw [ByteArray.size_extract]; omega
            have hsm := fun U => sealOf_any (T.extract 0 N) U hx1
            rw [HL1.out] at hsm
            obtain ⟨Q, hQ⟩ : ∃ Q, txt (sealB (kk :: a :: b :: cc :: t.take m)) = Q := ⟨_, rfl⟩
            have hQd : Q.data.toList = sealB (kk :: a :: b :: cc :: t.take m) := by rw [← hQ, txt_data]
            rw [hQ] at hsm
            obtain ⟨X, hX⟩ : ∃ X, T.extract N (N + 4) = X := ⟨_, rfl⟩
            have hXd : X.data.toList = (t.drop m).take 4 := by rw [← hX]; exact HL3.out
            have hx4 : okS (T.extract 4 N) := by unfold okS; rw [ByteArray.size_extract]; omega
            have hde := fun U => recordOf_any (T.extract 4 N) U hx4
            have HSM := Lib.hid hsm; have HDE := Lib.hid hde; have HBk := Lib.hid hdr; have HQD := Lib.hid hQd; have HXD := Lib.hid hXd; have HXX := Lib.hid hX; have HO1 := Lib.hid hO1; have HBW := Lib.hid hbw
            clear hsm hde hdr hQd hXd hX hO1 hbw
            clear hQ hx1
            by_cases hQX : Q = X
            · have he1 : (Q.toList == (T.extract N (N + 4)).toList) = true := by rw [HXX.out, hQX]; simp
              have he2 : (Q.toList != (T.extract N (N + 4)).toList) = false := by rw [HXX.out, hQX]; simp
              have hseal : sealB (kk :: a :: b :: cc :: t.take m) = (t.drop m).take 4 := by rw [← HQD.out, hQX, HXD.out]
              have hde := HDE.out
              clear HDE
              cases hdd : decRecord recErr (t.take m) with
              | error er =>
                have hne := dec_ne hdd
                obtain ⟨hc1, hc2⟩ := dec_err (s := T.extract 4 N) (by rw [HL2.out]; exact hdd)
                rw [hc1, hc2] at hde
                have hl := HF3.out er hlong hseal hdd
                have hez : (er == 0) = false := by simp [hne]
                have hez2 : (er != 0) = true := by simp [hne]
                have HL := Lib.hid hl
                have HD2 := Lib.hid hde
                clear hl hde hc1 hc2 hdd hseal hQX
                go_wp2_with fail
                go_region_held3 (fun _ => True) (exact trivial)
                  (first
                    | (go_at_call 17; (with_reducible refine (HSM.out _).mono ?_); rintro e w7 ⟨rfl, hb7⟩; have hb8 := below_step HBk.out hb7; have HBk := Lib.hid hb8; clear hb7 hb8))
                all_goals
                  go_wp2_with fail
                  with_reducible refine (HD2.out _).mono ?_
                  rintro e w8 ⟨cs, rfl, hb8, hr8⟩
                  obtain ⟨I1, i1, T1, e1, T2, e2, D1, d1, rfl, _⟩ := hr8.parts
                  dsimp only [noRecord, List.length_nil]
                  have hbk := HBk.out.trans (hb8.mono HBk.out.size)
                  have HBk := Lib.hid hbk
                  clear hb8 hbk hr8
                  go_upto_region 10 with fail
                  have hBc := Box.made w8 33 #[.string ⟨#[]⟩, .string ⟨#[]⟩, .slice I1 0 i1, .slice T1 0 e1, .slice T2 0 e2, .slice D1 0 d1]
                  have hbc : Below w8.heap.size w8 (w8.alloc (.cells #[.string ⟨#[]⟩, .string ⟨#[]⟩, .slice I1 0 i1, .slice T1 0 e1, .slice T2 0 e2, .slice D1 0 d1] 33)) := by go_grown
                  have hzc : (w8.alloc (.cells #[.string ⟨#[]⟩, .string ⟨#[]⟩, .slice I1 0 i1, .slice T1 0 e1, .slice T2 0 e2, .slice D1 0 d1] 33)).heap.size = w8.heap.size + 1 := by simp
                  generalize w8.alloc (.cells #[.string ⟨#[]⟩, .string ⟨#[]⟩, .slice I1 0 i1, .slice T1 0 e1, .slice T2 0 e2, .slice D1 0 d1] 33) = W9 at hBc hbc hzc ⊢
                  have hbk := HBk.out.trans (hbc.mono HBk.out.size)
                  have HBk := Lib.hid hbk
                  clear hBc hbc hzc hbk
                  go_wp2_with fail
                  go_ret2
                  exact HEND.out _ (HO1.out.below RecordR.stays HBk.out) (HBW.out.trans (HBk.out.mono HBW.out.size)) HL.out
              | ok R =>
                obtain ⟨hc1, hc2⟩ := dec_rec (s := T.extract 4 N) (by rw [HL2.out]; exact hdd)
                rw [hc1, hc2] at hde
                have hlf := HF4.out R hlong hseal hdd
                obtain ⟨hn8, hnl⟩ := logFirst_more hlf
                have hnl2 : u + (m + 8) ≤ s.size := by
                  have h1 : T.data.toList.length = T.size := by rw [Array.length_toList]; rfl
                  have := HTZ.out; omega
                have hS2 := hS.out.next (by rw [← HTD.out]; exact hlf)
                have HD2 := Lib.hid hde
                have HNL := Lib.hid hnl2
                have HS2 := Lib.hid hS2
                clear hde hc1 hc2 hdd hseal hQX hlf hn8 hnl hnl2 hS2
                go_wp2_with fail
                go_region_held3 (fun _ => True) (exact trivial)
                  (first
                    | (go_at_call 17; (with_reducible refine (HSM.out _).mono ?_); rintro e w7 ⟨rfl, hb7⟩; have hb8 := below_step HBk.out hb7; have HBk := Lib.hid hb8; clear hb7 hb8))
                all_goals
                  go_wp2_with fail
                  with_reducible refine (HD2.out _).mono ?_
                  rintro e w8 ⟨cs, rfl, hb8, hr8⟩
                  obtain ⟨I1, i1, T1, e1, T2, e2, D1, d1, rfl, _⟩ := hr8.parts
                  have hbk := HBk.out.trans (hb8.mono HBk.out.size)
                  have h7 := HBk.out.size
                  have HBk := Lib.hid hbk
                  have h8' := hb8.size
                  have HR8 := Lib.hid hr8; have HZ7 := Lib.hid h7; have HZ8 := Lib.hid h8'
                  clear hr8 h7 h8'
                  clear hb8 hbk
                  go_upto_region 10 with fail
                  have hBc := Box.made w8 33 #[.string R.name, .string R.source, .slice I1 R.imports.length i1, .slice T1 R.face.types.length e1, .slice T2 R.face.funcs.length e2, .slice D1 R.diags.length d1]
                  have hbc : Below w8.heap.size w8 (w8.alloc (.cells #[.string R.name, .string R.source, .slice I1 R.imports.length i1, .slice T1 R.face.types.length e1, .slice T2 R.face.funcs.length e2, .slice D1 R.diags.length d1] 33)) := by go_grown
                  have hzc : (w8.alloc (.cells #[.string R.name, .string R.source, .slice I1 R.imports.length i1, .slice T1 R.face.types.length e1, .slice T2 R.face.funcs.length e2, .slice D1 R.diags.length d1] 33)).heap.size = w8.heap.size + 1 := by simp
                  generalize w8.alloc (.cells #[.string R.name, .string R.source, .slice I1 R.imports.length i1, .slice T1 R.face.types.length e1, .slice T2 R.face.funcs.length e2, .slice D1 R.diags.length d1] 33) = W9 at hBc hbc hzc ⊢
                  have hr9 := HR8.out.lat hbc (Nat.le_refl _)
                  have hbk := HBk.out.trans (hbc.mono HBk.out.size)
                  have hO9 := HO1.out.below RecordR.stays hbk
                  have hbw9 := HBW.out.trans (hbk.mono HBW.out.size)
                  have hz9 := hbc.size
                  have hz1 := HBW.out.size
                  have hNm := HN.out
                  have hNL := HNL.out
                  have y0 := hBc.at_ 0 _ rfl
                  have y1 := hBc.at_ 1 _ rfl
                  have y2 := hBc.at_ 2 _ rfl
                  have y3 := hBc.at_ 3 _ rfl
                  have y4 := hBc.at_ 4 _ rfl
                  have y5 := hBc.at_ 5 _ rfl
                  have HR9 := Lib.hid hr9; have HO9 := Lib.hid hO9; have HBW9 := Lib.hid hbw9; have HZ9 := Lib.hid hz9; have HZ1 := Lib.hid hz1; have HNm := Lib.hid hNm; have HNL2 := Lib.hid hNL
                  clear hr9 hO9 hbw9 hz9 hz1 hNm hNL
                  clear hBc hbc hzc hbk
                  go_wp2_with (at_builtin; go_must ((refine wpList_push RecordR.stays (.agg zeroRec.toArray) [.string R.name, .string R.source, .slice I1 R.imports.length i1, .slice T1 R.face.types.length e1, .slice T2 R.face.funcs.length e2, .slice D1 R.diags.length d1] R rfl rfl Try.underlying22 (bytes := 128) (by kernel_rfl) HO9.out rfl rfl (by decide) rfl rfl (G := fresh w7.heap.size w8.heap.size) HR9.out (by intro u hu; simp at hu; rcases hu with rfl | rfl | rfl | rfl | rfl | rfl <;> rfl) (fun k hk => ⟨by have := hk.2; have := HZ9.out; omega, fun e => by have h1 := hk.1; have := (HO1.out.row e.symm).2; have := HZ7.out; omega⟩) (by unfold maxLen; have := hk.out.2.1; omega) (by have := hk.out.2.1; omega) (by have := HZ9.out; have := HZ8.out; have := HZ7.out; have := HZ1.out; omega) ?_); (intro A14 c14 w14 hO14 hgr14 hloc14; have hb14 := HBW9.out.trans (hgr14.below (Nat.le_refl _) HBW9.out.size); have HO14 := Lib.hid hO14; have HB14 := Lib.hid hb14; clear hO14 hgr14 hloc14 hb14)))
                  have hNm := HNm.out
                  have hNL := HNL2.out
                  go_roundg (s.size - (u + (m + 8)))
                  case measure => omega
                  case rel =>
                    have hFl : ∀ j, (F j ∨ fresh w7.heap.size w8.heap.size j) → w.heap.size ≤ j := fun j hj => hj.elim (hk.out.2.2 j) (fun h => by have := h.1; have := HZ7.out; have := HZ1.out; omega)
                    exact ⟨A14, xs.length + 1, c14, xs ++ [R], _, u + (m + 8), rfl, by first | go_num | (congr 1; omega), by omega, by omega, aside ⟨by simp, by have := hk.out.2.1; simp; omega, hFl⟩, aside HO14.out, aside HB14.out, aside HS2.out⟩
            · have he1 : (Q.toList == (T.extract N (N + 4)).toList) = false := by rw [HXX.out, ← eqB_list]; exact eqB_no hQX
              have he2 : (Q.toList != (T.extract N (N + 4)).toList) = true := by simp only [bne, he1]; rfl
              have hl := HF2.out hlong (fun h => hQX (ba_ext (by rw [HQD.out, HXD.out, h])))
              have HL := Lib.hid hl
              clear hl hQX
              go_wp2_with fail
              go_region_held3 (fun _ => True) (exact trivial)
                (first
                  | (go_at_call 17; (with_reducible refine (HSM.out _).mono ?_); rintro e w7 ⟨rfl, hb7⟩; have hb8 := below_step HBk.out hb7; have HBk := Lib.hid hb8; clear hb7 hb8))
              all_goals
                go_wp2_with fail
                go_ret2
                exact HEND.out _ (HO1.out.below RecordR.stays HBk.out) (HBW.out.trans (HBk.out.mono HBW.out.size)) HL.out
      · have hkz : (kk.toNat : Int) ≠ 107 := fun h => hkk (UInt8.toNat.inj (by have : (107 : UInt8).toNat = 107 := rfl; omega))
        have hkz2 : ((kk.toNat : Int) == 107) = false := by simpa using hkz
        have hl : logFirst recErr T.data.toList = none := by rw [hd]; exact lf_kind hkk
        have HL := Lib.hid hl; have HTD := Lib.hid hTd; have HD := Lib.hid hd; have HSZ := Lib.hid hsz
        clear hl hTd hd hsz
        clear hkk
        go_wp2_with fail
        go_ret2
        exact HEND.out _ hO.out hB.out HL.out

end Go.Proofs.Ytoejhgbndehaiaa
