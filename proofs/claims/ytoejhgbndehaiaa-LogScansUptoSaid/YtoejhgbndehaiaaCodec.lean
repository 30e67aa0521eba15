/- Records as bytes: how they are written, and read. Plain facts. -/
import Derived.Test.YtoejhgbndehaiaaBase
namespace Go.Proofs.Ytoejhgbndehaiaa

/-- A number as one byte. -/
def encNum (n : Nat) : List UInt8 := [UInt8.ofNat n]
/-- A text behind its length. -/
def encStr (s : ByteArray) : List UInt8 := UInt8.ofNat (s.size / 256) :: UInt8.ofNat s.size :: s.data.toList
def encKnown (x : Known) : List UInt8 := encStr x.name ++ encStr x.is_
def encSig (x : Sig) : List UInt8 := encStr x.name ++ (encNum x.params.length ++ (x.params.flatMap encStr ++ encStr x.result))
def encFace (a : Face) : List UInt8 := encNum a.types.length ++ (a.types.flatMap encKnown ++ (encNum a.funcs.length ++ a.funcs.flatMap encSig))
def encImport (x : Import) : List UInt8 := encStr x.name ++ (encNum (if x.there then 1 else 0) ++ encFace x.face)
def encDiag (d : Diag) : List UInt8 := encStr d.where_ ++ encNum d.code.toNat
def encRecord (r : Record) : List UInt8 := encStr r.name ++ (encStr r.source ++ (encNum r.imports.length ++ (r.imports.flatMap encImport ++ (encFace r.face ++ (encNum r.diags.length ++ r.diags.flatMap encDiag)))))

/-- What reads a thing from the front: it and what is left, or what is wrong. -/
abbrev Rd (α : Type) := List UInt8 → Except Int (α × List UInt8)
def rdNum : Rd Nat
  | [] => .error 5
  | b :: r => .ok (b.toNat, r)
def rdStr : Rd ByteArray
  | b :: c :: r => if r.length < b.toNat * 256 + c.toNat then .error 5 else .ok (⟨(r.take (b.toNat * 256 + c.toNat)).toArray⟩, r.drop (b.toNat * 256 + c.toNat))
  | _ => .error 5
def rdThen {α β : Type} (p : Rd α) (f : α → Rd β) : Rd β := fun s => match p s with
  | .error e => .error e
  | .ok (x, r) => f x r
def rdPure {α : Type} (x : α) : Rd α := fun s => .ok (x, s)
/-- So many things, one behind the other. -/
def rdMany {α : Type} (p : Rd α) : Nat → Rd (List α)
  | 0 => rdPure []
  | n + 1 => rdThen (rdMany p n) fun xs => rdThen p fun x => rdPure (xs ++ [x])
/-- So many things as a byte tells. -/
def rdList {α : Type} (p : Rd α) : Rd (List α) := rdThen rdNum (rdMany p)
def rdKnown : Rd Known := rdThen rdStr fun n => rdThen rdStr fun i => rdPure ⟨n, i⟩
def rdSig : Rd Sig := rdThen rdStr fun n => rdThen (rdList rdStr) fun ps => rdThen rdStr fun r => rdPure ⟨n, ps, r⟩
def rdFace : Rd Face := rdThen (rdList rdKnown) fun ts => rdThen (rdList rdSig) fun fs => rdPure ⟨ts, fs⟩
def rdThere : Rd Bool := rdThen rdNum fun n s => if 1 < n then .error 4 else .ok (decide (n = 1), s)
def rdImport : Rd Import := rdThen rdStr fun n => rdThen rdThere fun t => rdThen rdFace fun f => rdPure ⟨n, t, f⟩
def rdDiag : Rd Diag := rdThen rdStr fun n => rdThen rdNum fun c => rdPure ⟨n, (c : Int)⟩
def rdRecord : Rd Record := rdThen rdStr fun n => rdThen rdStr fun s => rdThen (rdList rdImport) fun is => rdThen rdFace fun f => rdThen (rdList rdDiag) fun ds => rdPure ⟨n, s, is, f, ds⟩

section
variable {α β : Type} {p : Rd α} {s r : List UInt8} {x : α} {e : Int} {n : Nat}
theorem rdThen_ok {f : α → Rd β} (h : p s = .ok (x, r)) : rdThen p f s = f x r := by unfold rdThen; rw [h]
theorem rdThen_err {f : α → Rd β} (h : p s = .error e) : rdThen p f s = .error e := by unfold rdThen; rw [h]
theorem rdMany_next {xs : List α} (h : rdMany p n s = .ok (xs, r)) : rdMany p (n + 1) s = rdThen p (fun x => rdPure (xs ++ [x])) r := rdThen_ok h
theorem rdMany_ok {xs : List α} {t : List UInt8} (h : rdMany p n s = .ok (xs, r)) (hx : p r = .ok (x, t)) : rdMany p (n + 1) s = .ok (xs ++ [x], t) := by rw [rdMany_next h, rdThen_ok hx]; rfl
theorem rdMany_err {xs : List α} (h : rdMany p n s = .ok (xs, r)) (hx : p r = .error e) : rdMany p (n + 1) s = .error e := by rw [rdMany_next h, rdThen_err hx]
theorem rdMany_stop (h : rdMany p n s = .error e) : ∀ m, n ≤ m → rdMany p m s = .error e := by
  intro m
  induction m with
  | zero => intro hm; obtain rfl : n = 0 := by omega
            exact h
  | succ m ih =>
    intro hm
    by_cases hn : n = m + 1
    · rw [← hn]; exact h
    · exact rdThen_err (ih (by omega))
theorem rdMany_len : ∀ {n : Nat} {xs : List α} {r : List UInt8}, rdMany p n s = .ok (xs, r) → xs.length = n
  | 0, xs, r, h => by cases h; rfl
  | n + 1, xs, r, h => by
    cases h0 : rdMany p n s with
    | error e => rw [show rdMany p (n + 1) s = .error e from rdThen_err h0] at h; cases h
    | ok a =>
      obtain ⟨ys, t⟩ := a
      cases hx : p t with
      | error e => rw [rdMany_err h0 hx] at h; cases h
      | ok b =>
        obtain ⟨y, u⟩ := b
        rw [rdMany_ok h0 hx] at h
        cases h
        rw [List.length_append, rdMany_len h0]; rfl
end

/-- A record, and no byte more; its own faults are asked besides. -/
def decRecord (err : Record → Int) (s : List UInt8) : Except Int Record :=
  if 60000 < s.length then .error 1
  else match rdRecord s with
    | .error e => .error e
    | .ok (x, r) => if r.length ≠ 0 then .error 4 else if err x ≠ 0 then .error (err x) else .ok x

end Go.Proofs.Ytoejhgbndehaiaa
