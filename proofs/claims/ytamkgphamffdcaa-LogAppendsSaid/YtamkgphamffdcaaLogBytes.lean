/- A log's numbers as bytes, and its sums. -/
import Derived.Test.YtamkgphamffdcaaRefBytes
namespace Go.Proofs.Ytamkgphamffdcaa
open Go.RowKit Go.Shelf

/-- A number in four bytes, in three. -/
def num4 (n : Nat) : List UInt8 := [UInt8.ofNat (n / 16777216), UInt8.ofNat (n / 65536), UInt8.ofNat (n / 256), UInt8.ofNat n]
def num3 (n : Nat) : List UInt8 := [UInt8.ofNat (n / 65536), UInt8.ofNat (n / 256), UInt8.ofNat n]

theorem byte_div256 (n : Nat) : (n : Int) / 256 % 256 = ((UInt8.ofNat (n / 256)).toNat : Int) := by
  rw [show ((n : Int) / 256) = ((n / 256 : Nat) : Int) by simp]
  exact byte_nat _
theorem byte_div65536 (n : Nat) : (n : Int) / 65536 % 256 = ((UInt8.ofNat (n / 65536)).toNat : Int) := by
  rw [show ((n : Int) / 65536) = ((n / 65536 : Nat) : Int) by simp]
  exact byte_nat _
theorem byte_div16777216 (n : Nat) : (n : Int) / 16777216 % 256 = ((UInt8.ofNat (n / 16777216)).toNat : Int) := by
  rw [show ((n : Int) / 16777216) = ((n / 16777216 : Nat) : Int) by simp]
  exact byte_nat _
theorem made_box {w' : World} {base g n : Nat} {e : TypeId} {xs : List Value} (h : w'.ownsRow base e 1 (.slice (some ⟨g, 0, none⟩) n n) n xs) (h0 : 0 < n) : Box w' g e xs.toArray := by
  rcases h.2 with ⟨hv, _⟩ | ⟨g', cap, cur, hv, _, hh, _, _, hs, hx⟩
  · cases hv
  · simp only [Value.slice.injEq, Option.some.injEq, Addr.mk.injEq] at hv
    obtain ⟨⟨rfl, _⟩, _, rfl⟩ := hv
    have : cur = xs.toArray := by
      rw [← hx, List.take_of_length_le (by simp; omega)]
    subst this
    exact hh

set_option maxHeartbeats 1000000 in
set_option maxRecDepth 100000 in
theorem digits_3 (n : Nat) (w : World) (hn : n ≤ 9223372036854775807) : Calls Try.prog 168 #[.int .i64 n, .int .i64 3] w fun e w' => e = .returned (.string (txt (num3 n))) ∧ Below w.heap.size w w' := by
  obtain ⟨i0, hi, hz0, hz1, hz2⟩ := info_parts (show (Try.prog.info? 5).map (fun i => (i.zero, i.size, i.bytes)) = some (some (.int .u8 0 : Value), 1, 1) by kernel_rfl)
  go_enter Try.func168, Try.ntmps168
  go_wp2_with (at_make; refine wpList_make_full _ rfl _ _ 105 rfl w.heap.size 5 i0 (.int .u8 0) 1 Try.underlying105 hi hz0 hz1 .i64 .i64 3 3 3 rfl rfl rfl rfl (by rw [hz2]; decide) (by unfold maxLen; decide) (Nat.le_refl _) ?_)
  intro w1 hown hgr
  have hc : (Value.int IntKind.u8 0).cells = #[.int .u8 0] := rfl
  have he : (madeCells (Value.int IntKind.u8 0).cells (3 * 1)).toList.toArray = #[.int .u8 0, .int .u8 0, .int .u8 0] := by rw [hc]; simp [madeCells, List.range_succ]
  have hB : Box w1 w.heap.size 5 #[.int .u8 0, .int .u8 0, .int .u8 0] := he ▸ made_box hown (by decide)
  have hb1 : Below w.heap.size w w1 := (Below.refl _ _).grown hgr (Nat.le_refl _) (fun k hk => by cases hk)
  have c0 := hB.at_ 0 (.int .u8 0) rfl
  have c1 := hB.at_ 1 (.int .u8 0) rfl
  have c2 := hB.at_ 2 (.int .u8 0) rfl
  have f0 := hB.free 0
  have f1 := hB.free 1
  have f2 := hB.free 2
  have hcv : (convert 105 9 (.slice (some ⟨w.heap.size, 0, none⟩) 3 3)).run Try.prog (((w1.setCell ⟨w.heap.size, 2, none⟩ (.int .u8 ((n : Int) % 256))).setCell ⟨w.heap.size, 1, none⟩ (.int .u8 ((n : Int) / 256 % 256))).setCell ⟨w.heap.size, 0, none⟩ (.int .u8 ((n : Int) / 65536 % 256))) = .ok (.string (txt (num3 n))) (((w1.setCell ⟨w.heap.size, 2, none⟩ (.int .u8 ((n : Int) % 256))).setCell ⟨w.heap.size, 1, none⟩ (.int .u8 ((n : Int) / 256 % 256))).setCell ⟨w.heap.size, 0, none⟩ (.int .u8 ((n : Int) / 65536 % 256))) := by
    refine run_convert_bytes_back _ 105 9 5 ⟨w.heap.size, 0, none⟩ 3 (num3 n) Try.underlying105 Try.underlying5 Try.underlying9 (fun j hj => ?_)
    have hB2 := (((hB.put 2 (.int .u8 ((n : Int) % 256))).put 1 (.int .u8 ((n : Int) / 256 % 256))).put 0 (.int .u8 ((n : Int) / 65536 % 256)))
    match j, hj with
    | 0, _ =>
      have h := hB2.at_ 0 (.int .u8 ((n : Int) / 65536 % 256)) rfl
      rw [byte_div65536] at h
      first | exact h | simpa [Addr.add, num3] using h
    | 1, _ =>
      have h := hB2.at_ 1 (.int .u8 ((n : Int) / 256 % 256)) rfl
      rw [byte_div256] at h
      first | exact h | simpa [Addr.add, num3] using h
    | 2, _ =>
      have h := hB2.at_ 2 (.int .u8 ((n : Int) % 256)) rfl
      rw [byte_nat] at h
      first | exact h | simpa [Addr.add, num3] using h
  have HB1 := Lib.hid hb1
  clear hb1
  clear hown hgr hB he
  go_wp2_with fail
  refine wp_loop_rounds 4 ?_
  rw [rounds_succ]
  go_wp2_with fail
  rw [rounds_succ]
  go_wp2_with fail
  rw [rounds_succ]
  go_wp2_with fail
  rw [rounds_succ]
  go_wp2_with fail
  go_ret
  exact ⟨rfl, HB1.out.trans (by go_grown)⟩

set_option maxHeartbeats 1000000 in
set_option maxRecDepth 100000 in
theorem digits_4 (n : Nat) (w : World) (hn : n ≤ 9223372036854775807) : Calls Try.prog 168 #[.int .i64 n, .int .i64 4] w fun e w' => e = .returned (.string (txt (num4 n))) ∧ Below w.heap.size w w' := by
  obtain ⟨i0, hi, hz0, hz1, hz2⟩ := info_parts (show (Try.prog.info? 5).map (fun i => (i.zero, i.size, i.bytes)) = some (some (.int .u8 0 : Value), 1, 1) by kernel_rfl)
  go_enter Try.func168, Try.ntmps168
  go_wp2_with (at_make; refine wpList_make_full _ rfl _ _ 105 rfl w.heap.size 5 i0 (.int .u8 0) 1 Try.underlying105 hi hz0 hz1 .i64 .i64 4 4 4 rfl rfl rfl rfl (by rw [hz2]; decide) (by unfold maxLen; decide) (Nat.le_refl _) ?_)
  intro w1 hown hgr
  have hc : (Value.int IntKind.u8 0).cells = #[.int .u8 0] := rfl
  have he : (madeCells (Value.int IntKind.u8 0).cells (4 * 1)).toList.toArray = #[.int .u8 0, .int .u8 0, .int .u8 0, .int .u8 0] := by rw [hc]; simp [madeCells, List.range_succ]
  have hB : Box w1 w.heap.size 5 #[.int .u8 0, .int .u8 0, .int .u8 0, .int .u8 0] := he ▸ made_box hown (by decide)
  have hb1 : Below w.heap.size w w1 := (Below.refl _ _).grown hgr (Nat.le_refl _) (fun k hk => by cases hk)
  have c0 := hB.at_ 0 (.int .u8 0) rfl
  have c1 := hB.at_ 1 (.int .u8 0) rfl
  have c2 := hB.at_ 2 (.int .u8 0) rfl
  have c3 := hB.at_ 3 (.int .u8 0) rfl
  have f0 := hB.free 0
  have f1 := hB.free 1
  have f2 := hB.free 2
  have f3 := hB.free 3
  have hcv : (convert 105 9 (.slice (some ⟨w.heap.size, 0, none⟩) 4 4)).run Try.prog ((((w1.setCell ⟨w.heap.size, 3, none⟩ (.int .u8 ((n : Int) % 256))).setCell ⟨w.heap.size, 2, none⟩ (.int .u8 ((n : Int) / 256 % 256))).setCell ⟨w.heap.size, 1, none⟩ (.int .u8 ((n : Int) / 65536 % 256))).setCell ⟨w.heap.size, 0, none⟩ (.int .u8 ((n : Int) / 16777216 % 256))) = .ok (.string (txt (num4 n))) ((((w1.setCell ⟨w.heap.size, 3, none⟩ (.int .u8 ((n : Int) % 256))).setCell ⟨w.heap.size, 2, none⟩ (.int .u8 ((n : Int) / 256 % 256))).setCell ⟨w.heap.size, 1, none⟩ (.int .u8 ((n : Int) / 65536 % 256))).setCell ⟨w.heap.size, 0, none⟩ (.int .u8 ((n : Int) / 16777216 % 256))) := by
    refine run_convert_bytes_back _ 105 9 5 ⟨w.heap.size, 0, none⟩ 4 (num4 n) Try.underlying105 Try.underlying5 Try.underlying9 (fun j hj => ?_)
    have hB2 := ((((hB.put 3 (.int .u8 ((n : Int) % 256))).put 2 (.int .u8 ((n : Int) / 256 % 256))).put 1 (.int .u8 ((n : Int) / 65536 % 256))).put 0 (.int .u8 ((n : Int) / 16777216 % 256)))
    match j, hj with
    | 0, _ =>
      have h := hB2.at_ 0 (.int .u8 ((n : Int) / 16777216 % 256)) rfl
      rw [byte_div16777216] at h
      first | exact h | simpa [Addr.add, num4] using h
    | 1, _ =>
      have h := hB2.at_ 1 (.int .u8 ((n : Int) / 65536 % 256)) rfl
      rw [byte_div65536] at h
      first | exact h | simpa [Addr.add, num4] using h
    | 2, _ =>
      have h := hB2.at_ 2 (.int .u8 ((n : Int) / 256 % 256)) rfl
      rw [byte_div256] at h
      first | exact h | simpa [Addr.add, num4] using h
    | 3, _ =>
      have h := hB2.at_ 3 (.int .u8 ((n : Int) % 256)) rfl
      rw [byte_nat] at h
      first | exact h | simpa [Addr.add, num4] using h
  have HB1 := Lib.hid hb1
  clear hb1
  clear hown hgr hB he
  go_wp2_with fail
  refine wp_loop_rounds 5 ?_
  rw [rounds_succ]
  go_wp2_with fail
  rw [rounds_succ]
  go_wp2_with fail
  rw [rounds_succ]
  go_wp2_with fail
  rw [rounds_succ]
  go_wp2_with fail
  rw [rounds_succ]
  go_wp2_with fail
  go_ret
  exact ⟨rfl, HB1.out.trans (by go_grown)⟩

end Go.Proofs.Ytamkgphamffdcaa
