/- A face's functions by their names: face.Func, the reference's FuncIn; are two texts' lists, two signatures the same: sameTexts, sameSig. -/
import Derived.Test.YtafhepilcmimlaaDoorFaceFind
import Derived.Test.YtafhepilcmimlaaDoorFaceCopy
namespace Go.Proofs.YtafhepilcmimlaaDoor
open Go.RowKit Go.Shelf

def noSig : Sig := ⟨⟨#[]⟩, [], ⟨#[]⟩⟩
/-- The function of a name; is there one? -/
def funcIn (l : List Sig) (t : ByteArray) : Sig := (named Sig.name l t).getD noSig
def funcCode (l : List Sig) (t : ByteArray) : Int := match named Sig.name l t with | some _ => 0 | none => 6

theorem noSig_row {w : World} {F : Foot} : SigR w F [.string ⟨#[]⟩, .slice none 0 0, .string ⟨#[]⟩] noSig := ⟨_, rfl, by show (0 : Nat) ≤ _; omega, by show (0 : Nat) ≤ _; omega, SliceOf.nil_⟩

/-- What is stored cell by cell into a block of three. -/
theorem box3_put {w : World} {n : Nat} {t : TypeId} {a b c : Value} (h : Box w n t #[a, b, c]) (x y z : Value) : Box (((w.setCell ⟨n, 0, none⟩ x).setCell ⟨n, 1, none⟩ y).setCell ⟨n, 2, none⟩ z) n t #[x, y, z] := by
  have := ((h.put 0 x).put 1 y).put 2 z
  simpa using this
theorem heap3_put (w : World) (n : Nat) (x y z : Value) (k : Nat) (hk : k ≠ n) : (((w.setCell ⟨n, 0, none⟩ x).setCell ⟨n, 1, none⟩ y).setCell ⟨n, 2, none⟩ z).heap[k]? = w.heap[k]? := by
  rw [Below.heap_setCell _ _ _ _ hk, Below.heap_setCell _ _ _ _ hk, Below.heap_setCell _ _ _ _ hk]

end Go.Proofs.YtafhepilcmimlaaDoor
