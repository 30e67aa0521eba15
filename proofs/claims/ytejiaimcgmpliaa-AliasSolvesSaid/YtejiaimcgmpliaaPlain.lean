/- Plain facts on lists, no program in sight. -/
namespace Go.Proofs.Ytejiaimcgmpliaa

/-- The first place at which p holds; -1: there is none. -/
def fidx {α : Type} (p : α → Bool) (l : List α) : Int := match l.findIdx? p with | some i => (i : Int) | none => -1

theorem fidx_hit {α : Type} {p : α → Bool} {l : List α} {k : Nat} (hk : k < l.length) (h : p l[k] = true) (hb : ∀ j, j < k → ∀ x, l[j]? = some x → p x = false) : fidx p l = k := by
  have : l.findIdx? p = some k := by
    rw [List.findIdx?_eq_some_iff_getElem]
    refine ⟨hk, h, fun j hj => ?_⟩
    have := hb j hj l[j] (List.getElem?_eq_getElem (by omega))
    simp [this]
  simp [fidx, this]
theorem fidx_miss {α : Type} {p : α → Bool} {l : List α} (hb : ∀ j, j < l.length → ∀ x, l[j]? = some x → p x = false) : fidx p l = -1 := by
  have : l.findIdx? p = none := by
    rw [List.findIdx?_eq_none_iff]
    intro x hx
    obtain ⟨j, hj, rfl⟩ := List.mem_iff_getElem.1 hx
    exact hb j hj _ (List.getElem?_eq_getElem hj)
  simp [fidx, this]
theorem fidx_nonneg {α : Type} (p : α → Bool) (l : List α) : decide (0 ≤ fidx p l) = l.any p := by
  unfold fidx
  cases h : l.findIdx? p with
  | none =>
    rw [List.findIdx?_eq_none_iff] at h
    have : l.any p = false := by rw [List.any_eq_false]; intro x hx; simp [h x hx]
    rw [this]; decide
  | some i =>
    obtain ⟨hi, hp, _⟩ := List.findIdx?_eq_some_iff_getElem.1 h
    have : l.any p = true := List.any_eq_true.2 ⟨l[i], List.getElem_mem hi, hp⟩
    rw [this]
    simp
theorem seen_succ {α : Type} {p : α → Bool} {l : List α} {k : Nat} (hk : k < l.length) (h : p l[k] = false) (hb : ∀ j, j < k → ∀ x, l[j]? = some x → p x = false) : ∀ j, j < k + 1 → ∀ x, l[j]? = some x → p x = false := by
  intro j hj x hx
  by_cases e : j = k
  · subst e
    rw [List.getElem?_eq_getElem hk] at hx
    injection hx with hx
    rw [← hx]; exact h
  · exact hb j (by omega) x hx

theorem str_len (s : ByteArray) : s.data.toList.length = s.size := rfl
theorem str_at (s : ByteArray) (k : Nat) (h : k < s.size) : s.data.toList[k]'h = s[k] := rfl
theorem str_at? (s : ByteArray) (k : Nat) (h : k < s.size) : s.data.toList[k]? = some s[k] := by
  rw [List.getElem?_eq_getElem (show k < s.data.toList.length from h)]; rfl
theorem any_hit {α : Type} {p : α → Bool} {l : List α} {k : Nat} {x : α} (hk : l[k]? = some x) (h : p x = true) : l.any p = true :=
  List.any_eq_true.2 ⟨x, List.mem_of_getElem? hk, h⟩
theorem any_miss {α : Type} {p : α → Bool} {l : List α} {n : Nat} (hn : l.length ≤ n) (h : ∀ j, j < n → ∀ x, l[j]? = some x → p x = false) : l.any p = false := by
  rw [List.any_eq_false]
  intro x hx
  obtain ⟨j, hj, rfl⟩ := List.mem_iff_getElem.1 hx
  simp [h j (by omega) _ (List.getElem?_eq_getElem hj)]
theorem seen_succ' {α : Type} {p : α → Bool} {l : List α} {k : Nat} {y : α} (hk : l[k]? = some y) (h : p y = false) (hb : ∀ j, j < k → ∀ x, l[j]? = some x → p x = false) : ∀ j, j < k + 1 → ∀ x, l[j]? = some x → p x = false := by
  intro j hj x hx
  by_cases e : j = k
  · subst e
    rw [hk] at hx
    injection hx with hx
    rw [← hx]; exact h
  · exact hb j (by omega) x hx

/-- Are two lists alike, one by one? -/
def listEq {α β : Type} (p : α → β → Bool) : List α → List β → Bool
  | [], [] => true
  | x :: l, y :: m => p x y && listEq p l m
  | _, _ => false
theorem listEq_len {α β : Type} {p : α → β → Bool} : ∀ {l : List α} {m : List β}, l.length ≠ m.length → listEq p l m = false
  | [], [], h => absurd rfl h
  | [], _ :: _, _ => rfl
  | _ :: _, [], _ => rfl
  | x :: l, y :: m, h => by
    unfold listEq
    rw [listEq_len (fun e => h (by simp [e])), Bool.and_false]
theorem listEq_all {α β : Type} {p : α → β → Bool} : ∀ {l : List α} {m : List β}, l.length = m.length → (∀ (j : Nat) x y, l[j]? = some x → m[j]? = some y → p x y = true) → listEq p l m = true
  | [], [], _, _ => rfl
  | x :: l, y :: m, h, ha => by
    unfold listEq
    rw [ha 0 x y rfl rfl, listEq_all (by simpa using h) (fun j a b h1 h2 => ha (j + 1) a b (by simpa using h1) (by simpa using h2))]
    rfl
  | [], _ :: _, h, _ => by cases h
  | _ :: _, [], h, _ => by cases h
theorem listEq_miss {α β : Type} {p : α → β → Bool} : ∀ {l : List α} {m : List β} {j : Nat} {x : α} {y : β}, l[j]? = some x → m[j]? = some y → p x y = false → listEq p l m = false
  | [], _, j, _, _, h, _, _ => by simp at h
  | _ :: _, [], _, _, _, _, _, _ => rfl
  | a :: l, b :: m, 0, x, y, h1, h2, h3 => by
    simp only [List.getElem?_cons_zero, Option.some.injEq] at h1 h2
    subst h1; subst h2
    unfold listEq
    rw [h3]; rfl
  | a :: l, b :: m, j + 1, x, y, h1, h2, h3 => by
    unfold listEq
    rw [listEq_miss (by simpa using h1) (by simpa using h2) h3, Bool.and_false]
theorem alike_succ {α β : Type} {p : α → β → Bool} {l : List α} {m : List β} {k : Nat} {a : α} {b : β} (h1 : l[k]? = some a) (h2 : m[k]? = some b) (h : p a b = true) (hb : ∀ j, j < k → ∀ x y, l[j]? = some x → m[j]? = some y → p x y = true) : ∀ j, j < k + 1 → ∀ x y, l[j]? = some x → m[j]? = some y → p x y = true := by
  intro j hj x y hx hy
  by_cases e : j = k
  · subst e
    rw [h1] at hx; rw [h2] at hy
    injection hx with hx; injection hy with hy
    rw [← hx, ← hy]; exact h
  · exact hb j (by omega) x y hx hy
theorem alike_end {α β : Type} {p : α → β → Bool} {l : List α} {m : List β} (hl : l.length = m.length) (hb : ∀ j, j < l.length → ∀ x y, l[j]? = some x → m[j]? = some y → p x y = true) : listEq p l m = true :=
  listEq_all hl fun j x y h1 h2 => hb j (List.getElem?_eq_some_iff.1 h1).1 x y h1 h2
theorem listEq_refl {α : Type} {p : α → α → Bool} (hp : ∀ x, p x x = true) : ∀ l : List α, listEq p l l = true
  | [] => rfl
  | x :: l => by unfold listEq; rw [hp, listEq_refl hp l]; rfl

end Go.Proofs.Ytejiaimcgmpliaa
