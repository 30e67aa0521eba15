/- Tokens as texts. Plain facts. -/
import Derived.Test.YthedfpcdibhfpaaDoorTokChk
import Derived.Test.YthedfpcdibhfpaaDoorTxts
namespace Go.Proofs.YthedfpcdibhfpaaDoor
open Go.RowKit

/-- Texts with a blank between. -/
def spaced (l : List ByteArray) : ByteArray := ⟨(Lib.join (l.map (·.data.toList)) [32]).toArray⟩
theorem spaced_nil : spaced [] = ⟨#[]⟩ := rfl
theorem spaced_one (x : ByteArray) : spaced [x] = x := ba_ext (by simp [spaced, Lib.join_one])
theorem spaced_snoc {l : List ByteArray} (x : ByteArray) (h : l ≠ []) : spaced (l ++ [x]) = spaced l ++ ⟨#[32]⟩ ++ x := by
  refine ba_ext ?_
  have h2 : l.map (·.data.toList) ≠ [] := fun e => h (List.map_eq_nil_iff.1 e)
  simp only [spaced, ba_app, ba_of, List.map_append, List.map_singleton, join_snoc _ _ _ h2, List.append_assoc]
theorem spaced_first {l : List ByteArray} {x : ByteArray} (h : l[0]? = some x) : spaced (l.take 1) = x := by
  cases l with
  | nil => cases h
  | cons y r => simp at h; subst h; exact spaced_one y
theorem spaced_take {l : List ByteArray} {k : Nat} {x : ByteArray} (h : l[k]? = some x) (h0 : 0 < k) : spaced (l.take (k + 1)) = spaced (l.take k) ++ ⟨#[32]⟩ ++ x := by
  rw [take_snoc h]
  refine spaced_snoc x fun e => ?_
  have := (List.getElem?_eq_some_iff.1 h).1
  have h2 := congrArg List.length e
  rw [List.length_take, List.length_nil] at h2
  omega
theorem spaceTail_size {c : Nat} : ∀ r : List ByteArray, (∀ x ∈ r, x.size ≤ c) → (Lib.joinTail [32] (r.map (·.data.toList))).length ≤ r.length * (c + 1)
  | [], _ => by simp [Lib.joinTail]
  | x :: r, h => by
    have h1 := spaceTail_size r (fun y hy => h y (by simp [hy]))
    have h2 := h x (by simp)
    rw [ba_size] at h2
    simp only [Lib.joinTail, List.map_cons, List.flatten_cons, List.length_append, List.length_cons, List.length_nil] at h1 ⊢
    rw [Nat.succ_mul]
    omega
theorem spaced_size {c : Nat} (l : List ByteArray) (h : ∀ x ∈ l, x.size ≤ c) : (spaced l).size ≤ l.length * (c + 1) := by
  cases l with
  | nil => rw [spaced_nil]; exact Nat.zero_le _
  | cons x r =>
    have h1 := spaceTail_size r (fun y hy => h y (by simp [hy]))
    have h2 := h x (by simp)
    rw [ba_size] at h2
    rw [ba_size, spaced, ba_of, List.map_cons, Lib.join_cons, List.length_append, List.length_cons, Nat.succ_mul]
    omega

def tokTxt (t : Token) : ByteArray := if t.kind = 3 then ⟨#[34]⟩ ++ t.text ++ ⟨#[34]⟩ else t.text
def toksR (l : List Token) : ByteArray × Int := if toksErr l = 0 then (spaced (l.map tokTxt), 0) else (⟨#[]⟩, toksErr l)

theorem wordOk_small {s : ByteArray} (h : wordOk s = true) : s.size ≤ 8 := by
  by_cases h0 : s.size = 0
  · omega
  · rw [wordOk_cons (by omega), Bool.and_eq_true, decide_eq_true_eq] at h
    exact h.1
theorem tok_small {t : Token} (h : tokErr t = 0) : t.text.size ≤ 20 := by
  unfold tokErr at h
  split at h
  · cases h
  · split at h
    · next h2 =>
      unfold tokOk at h2
      split at h2
      · have := wordOk_small h2; omega
      split at h2
      · unfold numOk at h2
        rw [Bool.and_eq_true, decide_eq_true_eq] at h2
        omega
      split at h2
      · exact quoteOk_small h2
      · by_cases h1 : t.text.size = 1
        · omega
        · rw [signOk_many h1] at h2; cases h2
    · cases h
theorem tokTxt_small {t : Token} (h : tokErr t = 0) : (tokTxt t).size ≤ 22 := by
  have h1 := tok_small h
  unfold tokTxt
  split
  · rw [ba_app_size, ba_app_size]
    show 1 + t.text.size + 1 ≤ 22
    omega
  · omega
theorem toks_fine {l : List Token} (h : toksErr l = 0) : l.length ≤ 200 ∧ ∀ t ∈ l, tokErr t = 0 := by
  unfold toksErr at h
  split at h
  · cases h
  · exact ⟨by omega, eachErr_zero h⟩
theorem toksTxt_small {l : List Token} (h : toksErr l = 0) (k : Nat) : (spaced ((l.map tokTxt).take k)).size ≤ 4600 := by
  obtain ⟨h1, h2⟩ := toks_fine h
  refine Nat.le_trans (spaced_size (c := 22) _ fun x hx => ?_) ?_
  · obtain ⟨t, ht, rfl⟩ := List.mem_map.1 (List.mem_of_mem_take hx)
    exact tokTxt_small (h2 t ht)
  · have : ((l.map tokTxt).take k).length ≤ 200 := by rw [List.length_take, List.length_map]; omega
    omega

end Go.Proofs.YthedfpcdibhfpaaDoor
