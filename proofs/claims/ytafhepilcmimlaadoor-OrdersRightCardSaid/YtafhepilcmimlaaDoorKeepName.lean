/- The laws' own names: name; and what a row lists of them. -/
import Derived.Test.YtafhepilcmimlaaDoorPicked
import Derived.Lib.LaidTab
namespace Go.Proofs.YtafhepilcmimlaaDoor
open Go.RowKit

def names6 : List ByteArray := [⟨#[97]⟩, ⟨#[98]⟩, ⟨#[98, 111, 120]⟩, ⟨#[100]⟩, ⟨#[101, 50]⟩, ⟨#[102, 117, 110]⟩]
def nameK (n : Int) : ByteArray := names6.getD (pickN n 6) ⟨#[]⟩
theorem nameK_mem (n : Int) : nameK n ∈ names6 := by
  have h := pickN_lt n (many := 6) (by decide)
  unfold nameK
  generalize pickN n 6 = p at h
  match p, h with
  | 0, _ => simp [names6]
  | 1, _ => simp [names6]
  | 2, _ => simp [names6]
  | 3, _ => simp [names6]
  | 4, _ => simp [names6]
  | 5, _ => simp [names6]
/-- The names stand in their variable. -/
def Named (w : World) : Prop := ∀ (i : Nat) s, names6[i]? = some s → w.cell? ⟨0, i, none⟩ = some (.string s)
theorem Named.later {w U : World} (h : Named w) (hU : Below w.heap.size w U) : Named U := fun i s hi => (hU.cell (World.block_lt_of_cell? w _ (h i s hi))).trans (h i s hi)

set_option maxHeartbeats 1000000 in
theorem name_any (n : Int) (w : World) (hn : I64 n) (hN : Named w) : Calls Tryd.prog 4 #[.int .i64 n] w fun e w' => e = .returned (.string (nameK n)) ∧ w = w' := by
  have hp : ∀ U, Calls Tryd.prog 14 #[.int .i64 n, .int .i64 6] U fun e w' => e = .returned (.int .i64 (pickN n 6)) ∧ U = w' := fun U => picked_any n 6 (by decide) hn U
  have hlt := pickN_lt n (many := 6) (by decide)
  have hc : w.cell? ⟨0, pickN n 6, none⟩ = some (.string (nameK n)) := hN _ _ (by
    unfold nameK
    rw [List.getD_eq_getElem?_getD, List.getElem?_eq_getElem (show pickN n 6 < names6.length from hlt)]; rfl)
  generalize nameK n = s at hc ⊢
  generalize pickN n 6 = p at hp hlt hc
  have hltz : (p : Int) < 6 := by omega
  have HP := Lib.hid hp
  clear hp
  clear hN
  go_enter Tryd.func4, Tryd.ntmps4
  go_wp2_with fail
  refine (HP.out _).mono ?_
  rintro e w' ⟨rfl, rfl⟩
  go_wp2_with fail
  go_ret
  exact ⟨rfl, rfl⟩

/-- An array of strings that reads as listed holds them, cell for cell. -/
theorem cells_of_strs {H : Type} {enc : TypeId × Value → H} {P : Program} {w : World} {base : Nat} {sp : Nat → Bool} {held : Bool} {fuel : Nat} {t e : TypeId} {n : Nat} {cs : List Value} {zs : List (List UInt8)} {p : List MemPlace}
    (ht : P.underlying t = some (.array n e)) (he : P.underlying e = some .string) (hce : P.cellsOf e = 1) (hct : P.cellsOf t = n)
    (h : DataW.trod enc P w base sp held fuel t cs = some (.agg (zs.map fun z => .lit (.string z)), p)) : ∀ (i : Nat) z, zs[i]? = some z → ∃ s : ByteArray, cs[i]? = some (.string s) ∧ s.data.toList = z := by
  cases fuel with
  | zero => simp [DataW.trod] at h
  | succ fuel =>
    simp only [DataW.trod, ht, hce, hct, Nat.mul_one] at h
    split at h
    · rename_i hl
      obtain ⟨xs, hm, hx⟩ := Option.map_eq_some_iff.1 h
      have hxs : xs.map (·.1) = zs.map fun z => (DataW.lit (.string z) : DataW H) := by
        have := congrArg Prod.fst hx
        simpa using this
      have hxl : xs.length = n := by simpa using Lib.mapM_length hm
      intro i z hz
      have hi : i < n := by
        have h1 := (List.getElem?_eq_some_iff.1 hz).1
        have h2 := congrArg List.length hxs
        simp at h2
        omega
      obtain ⟨b, hb, hf⟩ := Lib.mapM_at hm i i (by simp [hi])
      obtain ⟨s, hc, hd, _⟩ := DataW.trod_string he hf
      have h2 : (xs.map (·.1))[i]? = some b.1 := by simp [hb]
      rw [hxs] at h2
      simp only [List.getElem?_map, hz, Option.map_some, Option.some.injEq] at h2
      refine ⟨s, ?_, ?_⟩
      · have := congrArg (·[0]?) hc
        simpa [List.getElem?_take, List.getElem?_drop] using this
      · rw [hd] at h2
        simpa using h2.symm
    · cases h
theorem named_of {W : World} {rest : List (String × DataW Unit)} (h : laidMet Tryd.prog (("scullery/scullerykeep.names", .agg [.lit (.string [97]), .lit (.string [98]), .lit (.string [98, 111, 120]), .lit (.string [100]), .lit (.string [101, 50]), .lit (.string [102, 117, 110])]) :: rest) W) : Named W := by
  obtain ⟨ps, ⟨g', t', cs, fuel, p, q, hg', ht', hvar, hd, _, _⟩, _⟩ := h
  have hg : Tryd.prog.globalNamed "scullery/scullerykeep.names" = some 0 := by kernel_rfl
  obtain rfl := Option.some.inj (hg.symm.trans hg')
  have hty : (Tryd.prog.globals[0]?).map (·.type) = some 24 := by kernel_rfl
  obtain rfl := Option.some.inj (hty.symm.trans ht')
  have hc := cells_of_strs (zs := names6.map (·.data.toList)) Tryd.underlying24 Tryd.underlying9 (by kernel_rfl) (by kernel_rfl) hd
  intro i s hi
  obtain ⟨s', h1, h2⟩ := hc i s.data.toList (by rw [List.getElem?_map, hi]; rfl)
  have hv := World.var?_cell hg hvar i
  rw [show s = s' from Go.WideShapes.bytes_inj (by rw [h2])]
  rw [hv, ← h1]
  simp

end Go.Proofs.YtafhepilcmimlaaDoor
