/- Types that must be right: tree.kind. -/
import Derived.Test.YtafhepilcmimlaaDoorTreeErr2
import Derived.Test.YtafhepilcmimlaaDoorFault
namespace Go.Proofs.YtafhepilcmimlaaDoor
open Go.RowKit Go.Shelf

theorem TyR.form {w : World} {F : Foot} {cs : List Value} {t : Ty} (h : TyR w F cs t) : ∃ A c, cs = [.int .i64 t.kind, .string t.of_, .string t.name, .slice A t.args.length c] := by
  obtain ⟨n, h⟩ := h
  cases n with
  | zero => exact h.elim
  | succ n =>
    obtain ⟨av, rfl, _, _, _, hav⟩ := h
    obtain ⟨A, c, rfl, _⟩ := hav.form
    exact ⟨A, c, rfl⟩
theorem tyErr_range {f : Nat} {k : Int} {o nm : ByteArray} {args : List Ty} (h : k < 1 ∨ 4 < k) : tyErr (f + 1) (.mk k o nm args) = 3 := by unfold tyErr; rw [if_pos h]
theorem tyErr_list {f : Nat} {o nm : ByteArray} {a : Ty} (h : nm.size = 0 ∧ o.size = 0) : tyErr (f + 1) (.mk 3 o nm [a]) = tyErr f a := by
  conv => lhs; unfold tyErr
  rw [if_neg (by decide), if_pos rfl]; simp only; rw [if_pos h]
theorem tyErr_list_no {f : Nat} {o nm : ByteArray} {a : Ty} (h : ¬ (nm.size = 0 ∧ o.size = 0)) : tyErr (f + 1) (.mk 3 o nm [a]) = 4 := by
  unfold tyErr
  rw [if_neg (by decide), if_pos rfl]; simp only; rw [if_neg h]
theorem tyErr_list_many {f : Nat} {o nm : ByteArray} {args : List Ty} (h : args.length ≠ 1) : tyErr (f + 1) (.mk 3 o nm args) = 4 := by
  unfold tyErr
  rw [if_neg (by decide), if_pos rfl]
  match args, h with
  | [], _ => rfl
  | [_], h => exact absurd rfl h
  | _ :: _ :: _, _ => rfl
theorem tyErr_args {f : Nat} {k : Int} {o nm : ByteArray} {args : List Ty} (h : ¬ (k < 1 ∨ 4 < k)) (h3 : k ≠ 3) (ha : args.length ≠ 0) : tyErr (f + 1) (.mk k o nm args) = 4 := by unfold tyErr; rw [if_neg h, if_neg h3, if_pos ha]
theorem tyErr_named {f : Nat} {o nm : ByteArray} : tyErr (f + 1) (.mk 4 o nm []) = if nameOk nm = true ∧ (o.size = 0 ∨ nameOk o = true) then 0 else 4 := by
  unfold tyErr; rw [if_neg (by decide), if_neg (by decide), if_neg (by simp), if_pos rfl]
theorem tyErr_plain {f : Nat} {k : Int} {o nm : ByteArray} (h : k = 1 ∨ k = 2) : tyErr (f + 1) (.mk k o nm []) = if nm.size = 0 ∧ o.size = 0 then 0 else 4 := by
  unfold tyErr; rw [if_neg (by omega), if_neg (by omega), if_neg (by simp), if_neg (by omega)]

end Go.Proofs.YtafhepilcmimlaaDoor
