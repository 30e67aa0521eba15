/- A log's sums: log.sum, and the reference's sealOf. -/
import Derived.Test.YtamkgphamffdcaaLogBytes
namespace Go.Proofs.Ytamkgphamffdcaa
open Go.RowKit Go.Shelf

def adlStep (p : Nat × Nat) (b : UInt8) : Nat × Nat := ((p.1 + b.toNat) % 65521, (p.2 + (p.1 + b.toNat) % 65521) % 65521)
/-- The two sums of bytes. -/
def adl (l : List UInt8) : Nat × Nat := l.foldl adlStep (1, 0)
theorem adl_snoc (l : List UInt8) (b : UInt8) : adl (l ++ [b]) = adlStep (adl l) b := by simp [adl]
theorem adl_take {l : List UInt8} {k : Nat} {b : UInt8} (h : l[k]? = some b) : adl (l.take (k + 1)) = adlStep (adl (l.take k)) b := by rw [take_snoc h, adl_snoc]
theorem adl_small (l : List UInt8) : (adl l).1 < 65521 ∧ (adl l).2 < 65521 := by
  have : ∀ (l : List UInt8) (p : Nat × Nat), p.1 < 65521 ∧ p.2 < 65521 → (l.foldl adlStep p).1 < 65521 ∧ (l.foldl adlStep p).2 < 65521 := by
    intro l
    induction l with
    | nil => intro p h; exact h
    | cons b l ih => intro p h; exact ih _ ⟨Nat.mod_lt _ (by decide), Nat.mod_lt _ (by decide)⟩
  exact this l (1, 0) ⟨by decide, by decide⟩
def sumN (l : List UInt8) : Nat := (adl l).2 * 65536 + (adl l).1

theorem bits_or_i64_nat (a b : Nat) (ha : a < 9223372036854775808) (hb : b < 9223372036854775808) : bits BinOp.or IntKind.i64 (a : Int) (b : Int) = ((a ||| b : Nat) : Int) := by
  have h1 : (BitVec.ofInt 64 (a : Int)).toNat = a := by rw [BitVec.toNat_ofInt]; omega
  have h2 : (BitVec.ofInt 64 (b : Int)).toNat = b := by rw [BitVec.toNat_ofInt]; omega
  have h3 : a ||| b < 2 ^ 63 := Nat.or_lt_two_pow (by simpa using ha) (by simpa using hb)
  show IntKind.i64.wrap (((BitVec.ofInt 64 (a : Int)) ||| (BitVec.ofInt 64 (b : Int))).toNat : Int) = _
  rw [BitVec.toNat_or, h1, h2]
  exact IntWalk.i64_in _ (by omega)
theorem bits_or_sum (x y : Nat) (hx : x < 65536) (hy : y < 65536) : bits BinOp.or IntKind.i64 (IntKind.i64.wrap ((y : Int) * 65536)) (x : Int) = ((y * 65536 + x : Nat) : Int) := by
  have h1 : IntKind.i64.wrap ((y : Int) * 65536) = ((y * 65536 : Nat) : Int) := by
    rw [IntWalk.i64_in _ (by omega)]; simp
  rw [h1]
  have h2 : y * 65536 ||| x = y * 65536 + x := by
    have := Nat.shiftLeft_add_eq_or_of_lt (i := 16) (by simpa using hx : x < 2 ^ 16) y
    rw [Nat.shiftLeft_eq] at this
    exact this.symm
  rw [← h2]
  exact bits_or_i64_nat _ _ (by omega) (by omega)
theorem step_x (x y : Nat) (b : UInt8) (hx : x < 65521) : (wrap64 ((x : Int) + wrap64 (b.toNat : Int))).tmod 65521 = ((adlStep (x, y) b).1 : Int) := by
  have hb := b.toNat_lt
  rw [IntWalk.wrap64_in (b.toNat : Int) (by omega), IntWalk.wrap64_in _ (by omega), Int.tmod_eq_emod_of_nonneg (by omega)]
  simp [adlStep]
theorem step_y (x y : Nat) (b : UInt8) (hx : x < 65521) (hy : y < 65521) : (wrap64 ((y : Int) + (wrap64 ((x : Int) + wrap64 (b.toNat : Int))).tmod 65521)).tmod 65521 = ((adlStep (x, y) b).2 : Int) := by
  rw [step_x x y b hx]
  have h : (adlStep (x, y) b).1 < 65521 := Nat.mod_lt _ (by decide)
  rw [IntWalk.wrap64_in _ (by omega), Int.tmod_eq_emod_of_nonneg (by omega)]
  simp [adlStep]
theorem step_y' (x y : Nat) (b : UInt8) (hx : x < 65521) (hy : y < 65521) : (wrap64 ((wrap64 ((x : Int) + wrap64 (b.toNat : Int))).tmod 65521 + (y : Int))).tmod 65521 = ((adlStep (x, y) b).2 : Int) := by
  rw [Int.add_comm]; exact step_y x y b hx hy

set_option maxHeartbeats 1000000 in
set_option maxRecDepth 100000 in
theorem sum_any (s : ByteArray) (w : World) (hs : s.size ≤ 140737488355328) : Calls Try.prog 169 #[.string s] w fun e w' => e = .returned (.int .i64 ((sumN s.data.toList : Nat) : Int)) ∧ w = w' := by
  go_enter Try.func169, Try.ntmps169
  go_wp2_with fail
  go_loopg [3, 4, 5, 8] s.size (fun gg s3 s4 _ s8 wr => ∃ kk : Nat, kk ≤ s.size ∧ s.size - kk ≤ gg ∧ s8 = .int .i64 kk ∧ s3 = .int .i64 ((adl (s.data.toList.take kk)).1 : Int) ∧ s4 = .int .i64 ((adl (s.data.toList.take kk)).2 : Int) ∧ w = wr)
  case atStart => exact ⟨0, Nat.zero_le _, by omega, rfl, rfl, rfl, rfl⟩
  case round =>
    obtain ⟨kk, hkk, hg, rfl, rfl, rfl, rfl⟩ := hrel
    obtain ⟨hx, hy⟩ := adl_small (s.data.toList.take kk)
    by_cases hlt : kk < s.size
    · have hltz : (kk : Int) < (s.size : Int) := by omega
      have hat := adl_take (str_at? s kk hlt)
      generalize adl (s.data.toList.take kk) = p at *
      obtain ⟨x, y⟩ := p
      dsimp only at hx hy hat ⊢
      have hsx := step_x x y s[kk] hx
      have hsy := step_y x y s[kk] hx hy
      have HAT := Lib.hid hat; have HSX := Lib.hid hsx; have HSY := Lib.hid hsy
      clear hat hsx hsy
      go_wp2_with fail
      rw [HSY.out, HSX.out]
      go_roundg (s.size - (kk + 1))
      case measure => omega
      case rel => exact ⟨kk + 1, by omega, by omega, by go_num, by rw [HAT.out], by rw [HAT.out], rfl⟩
    · have hltz : ¬ (kk : Int) < (s.size : Int) := by omega
      obtain rfl : kk = s.size := by omega
      have htl : s.data.toList.take s.size = s.data.toList := List.take_of_length_le (by rw [str_len]; exact Nat.le_refl _)
      rw [htl] at hx hy ⊢
      have hor := bits_or_sum (adl s.data.toList).1 (adl s.data.toList).2 (by omega) (by omega)
      have hres : sumN s.data.toList = (adl s.data.toList).2 * 65536 + (adl s.data.toList).1 := rfl
      generalize adl s.data.toList = p at *
      obtain ⟨x, y⟩ := p
      dsimp only at *
      have HOR := Lib.hid hor; have HRES := Lib.hid hres
      clear hor hres
      go_wp2_with fail
      go_ret
      exact ⟨ret_int (by rw [HRES.out]; have h := HOR.out; rw [IntWalk.i64_in _ (by omega)] at h; exact h), rfl⟩

/-- The seal of bytes. -/
def sealB (l : List UInt8) : List UInt8 := [UInt8.ofNat ((adl l).2 / 256), UInt8.ofNat (adl l).2, UInt8.ofNat ((adl l).1 / 256), UInt8.ofNat (adl l).1]
theorem seal_num (l : List UInt8) : num4 (sumN l) = sealB l := by
  obtain ⟨hx, hy⟩ := adl_small l
  unfold num4 sumN sealB
  have e : ∀ a b : Nat, a % 256 = b % 256 → UInt8.ofNat a = UInt8.ofNat b := fun a b h => UInt8.toNat_inj.1 (by simpa using h)
  rw [e (((adl l).2 * 65536 + (adl l).1) / 16777216) ((adl l).2 / 256) (by omega), e (((adl l).2 * 65536 + (adl l).1) / 65536) (adl l).2 (by omega), e (((adl l).2 * 65536 + (adl l).1) / 256) ((adl l).1 / 256) (by omega), e ((adl l).2 * 65536 + (adl l).1) (adl l).1 (by omega)]

set_option maxHeartbeats 1000000 in
set_option maxRecDepth 100000 in
theorem sealOf_any (s : ByteArray) (w : World) (hs : s.size ≤ 140737488355328) : Calls Try.prog 172 #[.string s] w fun e w' => e = .returned (.string (txt (sealB s.data.toList))) ∧ Below w.heap.size w w' := by
  go_enter Try.func172, Try.ntmps172
  go_wp2_with fail
  go_loopg [3, 4, 5] s.size (fun gg s3 s4 s5 wr => ∃ kk : Nat, kk ≤ s.size ∧ s.size - kk ≤ gg ∧ s5 = .int .i64 kk ∧ s3 = .int .i64 ((adl (s.data.toList.take kk)).1 : Int) ∧ s4 = .int .i64 ((adl (s.data.toList.take kk)).2 : Int) ∧ w = wr)
  case atStart => exact ⟨0, Nat.zero_le _, by omega, rfl, rfl, rfl, rfl⟩
  case round =>
    obtain ⟨kk, hkk, hg, rfl, rfl, rfl, rfl⟩ := hrel
    obtain ⟨hx, hy⟩ := adl_small (s.data.toList.take kk)
    by_cases hlt : kk < s.size
    · have hltz : (kk : Int) < (s.size : Int) := by omega
      have hat := adl_take (str_at? s kk hlt)
      generalize adl (s.data.toList.take kk) = p at *
      obtain ⟨x, y⟩ := p
      dsimp only at hx hy hat ⊢
      have hsx := step_x x y s[kk] hx
      have hsy := step_y' x y s[kk] hx hy
      have HAT := Lib.hid hat; have HSX := Lib.hid hsx; have HSY := Lib.hid hsy
      clear hat hsx hsy
      go_wp2_with fail
      rw [HSY.out, HSX.out]
      go_roundg (s.size - (kk + 1))
      case measure => omega
      case rel => exact ⟨kk + 1, by omega, by omega, by go_num, by rw [HAT.out], by rw [HAT.out], rfl⟩
    · have hltz : ¬ (kk : Int) < (s.size : Int) := by omega
      obtain rfl : kk = s.size := by omega
      have htl : s.data.toList.take s.size = s.data.toList := List.take_of_length_le (by rw [str_len]; exact Nat.le_refl _)
      rw [htl] at hx hy ⊢
      have hres : sealB s.data.toList = [UInt8.ofNat ((adl s.data.toList).2 / 256), UInt8.ofNat (adl s.data.toList).2, UInt8.ofNat ((adl s.data.toList).1 / 256), UInt8.ofNat (adl s.data.toList).1] := rfl
      generalize adl s.data.toList = p at *
      obtain ⟨x, y⟩ := p
      dsimp only at *
      have hcv : (convert 105 9 (.slice (some ⟨w.heap.size, 0, none⟩) 4 4)).run Try.prog (w.alloc (.cells #[.int .u8 ((y : Int) / 256), .int .u8 ((y : Int) % 256), .int .u8 ((x : Int) / 256), .int .u8 ((x : Int) % 256)] 5)) = .ok (.string (txt [UInt8.ofNat (y / 256), UInt8.ofNat y, UInt8.ofNat (x / 256), UInt8.ofNat x])) (w.alloc (.cells #[.int .u8 ((y : Int) / 256), .int .u8 ((y : Int) % 256), .int .u8 ((x : Int) / 256), .int .u8 ((x : Int) % 256)] 5)) := by
        refine run_convert_bytes_back _ 105 9 5 ⟨w.heap.size, 0, none⟩ 4 [UInt8.ofNat (y / 256), UInt8.ofNat y, UInt8.ofNat (x / 256), UInt8.ofNat x] Try.underlying105 Try.underlying5 Try.underlying9 (fun j hj => ?_)
        have hB := Box.made w 5 #[.int .u8 ((y : Int) / 256), .int .u8 ((y : Int) % 256), .int .u8 ((x : Int) / 256), .int .u8 ((x : Int) % 256)]
        rw [Addr.add_lit, Nat.zero_add]
        match j, hj with
        | 0, _ => exact (hB.at_ 0 (.int .u8 ((y : Int) / 256)) rfl).trans (by rw [show (y : Int) / 256 = (y : Int) / 256 % 256 by omega, byte_hi]; rfl)
        | 1, _ => exact (hB.at_ 1 (.int .u8 ((y : Int) % 256)) rfl).trans (by rw [byte_nat]; rfl)
        | 2, _ => exact (hB.at_ 2 (.int .u8 ((x : Int) / 256)) rfl).trans (by rw [show (x : Int) / 256 = (x : Int) / 256 % 256 by omega, byte_hi]; rfl)
        | 3, _ => exact (hB.at_ 3 (.int .u8 ((x : Int) % 256)) rfl).trans (by rw [byte_nat]; rfl)
      have e1 : IntKind.i64.wrap ((y : Int) / 256) = (y : Int) / 256 := IntWalk.i64_in _ (by omega)
      have e2 : ((y : Int)).tmod 256 = (y : Int) % 256 := Int.tmod_eq_emod_of_nonneg (by omega)
      have e3 : IntKind.i64.wrap ((x : Int) / 256) = (x : Int) / 256 := IntWalk.i64_in _ (by omega)
      have e4 : ((x : Int)).tmod 256 = (x : Int) % 256 := Int.tmod_eq_emod_of_nonneg (by omega)
      have HRES := Lib.hid hres
      clear hres
      go_wp2_with fail
      go_ret
      exact ⟨ret_str (by rw [HRES.out]), by go_grown⟩

end Go.Proofs.Ytamkgphamffdcaa
