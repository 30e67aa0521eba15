/- Modules as texts. Plain facts. -/
import Derived.Test.YtoejhgbndehaiaaDoorTreeTxt
import Derived.Test.YtoejhgbndehaiaaDoorModErr
namespace Go.Proofs.YtoejhgbndehaiaaDoor
open Go.RowKit

theorem mod_parts {m : Module} (h : modErr m = 0) : m.uses.length + m.types.length + m.funcs.length ≤ 24 ∧ (∀ x ∈ m.uses, useErr x = 0) ∧ (∀ x ∈ m.types, fieldErr x = 0) ∧ ∀ x ∈ m.funcs, funErr x = 0 := by
  unfold modErr at h
  split at h
  · cases h
  · next h24 =>
    split at h
    · next hne => exact absurd h hne
    · next h1 =>
      split at h
      · next hne => exact absurd h hne
      · next h2 => exact ⟨by omega, eachErr_zero (Classical.not_not.1 h1), eachErr_zero (Classical.not_not.1 h2), eachErr_zero h⟩
theorem use_part {s : ByteArray} (h : useErr s = 0) : s.size ≤ 8 := by
  unfold useErr at h
  split at h
  · next hn => exact nameOk_small hn
  · cases h
theorem field_parts {x : Field} (h : fieldErr x = 0) : x.name.size ≤ 8 ∧ tyErr 10 x.is_ = 0 := by
  unfold fieldErr at h
  split at h
  · next hn => exact ⟨nameOk_small hn, h⟩
  · cases h
theorem fun_parts {x : Func} (h : funErr x = 0) : x.name.size ≤ 8 ∧ x.var_.size ≤ 8 ∧ x.params.length ≤ 8 ∧ (∀ p ∈ x.params, fieldErr p = 0) ∧ tyErr 10 x.result = 0 ∧ exErr 10 x.body = 0 := by
  unfold funErr at h
  split at h
  · cases h
  · next h1 =>
    split at h
    · cases h
    · next h2 =>
      split at h
      · next h3 => exact absurd h h3
      · next h3 =>
        split at h
        · next h4 => exact absurd h h4
        · next h4 =>
          refine ⟨?_, ?_, by omega, eachErr_zero (Classical.not_not.1 h3), Classical.not_not.1 h4, h⟩
          · cases hn : nameOk x.name with
            | true => exact nameOk_small hn
            | false => exact absurd (.inl hn) h1
          · by_cases hv : x.var_.size = 0
            · omega
            · cases hn : nameOk x.var_ with
              | true => exact nameOk_small hn
              | false => exact absurd (.inr ⟨hv, hn⟩) h1

def useLine (u : ByteArray) : ByteArray := ⟨#[117, 115, 101, 32]⟩ ++ u ++ ⟨#[10]⟩
def typeLine (x : Field) : ByteArray := ⟨#[116, 121, 112, 101, 32]⟩ ++ x.name ++ ⟨#[32, 61, 32]⟩ ++ tyTxt 10 x.is_ ++ ⟨#[10]⟩
def parLine (x : Field) : ByteArray := x.name ++ ⟨#[58, 32]⟩ ++ tyTxt 10 x.is_
def varTxt (v : ByteArray) : ByteArray := if v.size = 0 then ⟨#[]⟩ else ⟨#[60]⟩ ++ v ++ ⟨#[62]⟩
def funLine (f : Func) : ByteArray := ⟨#[102, 117, 110, 99, 32]⟩ ++ f.name ++ varTxt f.var_ ++ ⟨#[40]⟩ ++ joined (f.params.map parLine) ++ ⟨#[41, 58, 32]⟩ ++ tyTxt 10 f.result ++ ⟨#[32, 61, 32]⟩ ++ exTxt 10 f.body ++ ⟨#[10]⟩
def usesT (m : Module) (k : Nat) : ByteArray := cat ((m.uses.take k).map useLine)
def typesT (m : Module) (k : Nat) : ByteArray := usesT m m.uses.length ++ cat ((m.types.take k).map typeLine)
def funsT (m : Module) (k : Nat) : ByteArray := typesT m m.types.length ++ cat ((m.funcs.take k).map funLine)
def modTxt (m : Module) : ByteArray := funsT m m.funcs.length
def modR (m : Module) : ByteArray × Int := if modErr m = 0 then (modTxt m, 0) else (⟨#[]⟩, modErr m)

section
variable {m : Module} {k : Nat}
theorem usesT_zero : usesT m 0 = ⟨#[]⟩ := rfl
theorem usesT_succ {u : ByteArray} (h : m.uses[k]? = some u) : usesT m (k + 1) = usesT m k ++ useLine u := cat_take h
theorem typesT_zero : typesT m 0 = usesT m m.uses.length := by unfold typesT; rw [List.take_zero, List.map_nil, cat_nil, ba_app_nil]
theorem typesT_succ {x : Field} (h : m.types[k]? = some x) : typesT m (k + 1) = typesT m k ++ typeLine x := by unfold typesT; rw [cat_take h, ba_assoc]
theorem funsT_zero : funsT m 0 = typesT m m.types.length := by unfold funsT; rw [List.take_zero, List.map_nil, cat_nil, ba_app_nil]
theorem funsT_succ {x : Func} (h : m.funcs[k]? = some x) : funsT m (k + 1) = funsT m k ++ funLine x := by unfold funsT; rw [cat_take h, ba_assoc]
theorem useLine_size {u : ByteArray} (h : u.size ≤ 8) : (useLine u).size ≤ 13 := by
  unfold useLine
  rw [ba_app_size, ba_app_size]
  show 4 + u.size + 1 ≤ 13
  omega
theorem typeLine_size {x : Field} (h : fieldErr x = 0) : (typeLine x).size ≤ 67 := by
  obtain ⟨h1, h2⟩ := field_parts h
  have := tyTxt_size 10 x.is_ h2
  unfold typeLine
  rw [ba_app_size, ba_app_size, ba_app_size, ba_app_size]
  show 5 + x.name.size + 3 + _ + 1 ≤ 67
  omega
theorem parLine_size {x : Field} (h : fieldErr x = 0) : (parLine x).size ≤ 60 := by
  obtain ⟨h1, h2⟩ := field_parts h
  have := tyTxt_size 10 x.is_ h2
  unfold parLine
  rw [ba_app_size, ba_app_size]
  show x.name.size + 2 + _ ≤ 60
  omega
theorem pars_size {l : List Field} (h : ∀ p ∈ l, fieldErr p = 0) (h8 : l.length ≤ 8) (j : Nat) : (joined ((l.take j).map parLine)).size ≤ 496 := by
  refine Nat.le_trans (joined_size (c := 60) _ fun y hy => ?_) ?_
  · obtain ⟨p, hp, rfl⟩ := List.mem_map.1 hy
    exact parLine_size (h p (List.mem_of_mem_take hp))
  · rw [List.length_map, List.length_take]; omega
theorem varTxt_size {v : ByteArray} (h : v.size ≤ 8) : (varTxt v).size ≤ 10 := by
  unfold varTxt
  split
  · exact Nat.zero_le _
  · rw [ba_app_size, ba_app_size]
    show 1 + v.size + 1 ≤ 10
    omega
theorem funLine_size {f : Func} (h : funErr f = 0) : (funLine f).size ≤ 348678441000 := by
  obtain ⟨h1, h2, h3, h4, h5, h6⟩ := fun_parts h
  have a1 := varTxt_size h2
  have a2 := pars_size h4 h3 f.params.length
  rw [List.take_length] at a2
  have a3 := tyTxt_size 10 f.result h5
  have a4 := exTxt_size 10 f.body h6
  rw [exMax_ten] at a4
  unfold funLine
  rw [ba_app_size, ba_app_size, ba_app_size, ba_app_size, ba_app_size, ba_app_size, ba_app_size, ba_app_size, ba_app_size]
  show 5 + f.name.size + _ + 1 + _ + 3 + _ + 3 + _ + 1 ≤ 348678441000
  omega
theorem usesT_size (h : modErr m = 0) (k : Nat) : (usesT m k).size ≤ 24 * 13 := by
  obtain ⟨h24, hu, _, _⟩ := mod_parts h
  refine Nat.le_trans (cat_size (c := 13) _ fun y hy => ?_) (Nat.mul_le_mul_right _ ?_)
  · obtain ⟨u, hu', rfl⟩ := List.mem_map.1 hy
    exact useLine_size (use_part (hu u (List.mem_of_mem_take hu')))
  · rw [List.length_map, List.length_take]; omega
theorem typesT_size (h : modErr m = 0) (k : Nat) : (typesT m k).size ≤ 24 * 13 + 24 * 67 := by
  obtain ⟨h24, _, ht, _⟩ := mod_parts h
  unfold typesT
  rw [ba_app_size]
  refine Nat.add_le_add (usesT_size h _) (Nat.le_trans (cat_size (c := 67) _ fun y hy => ?_) (Nat.mul_le_mul_right _ ?_))
  · obtain ⟨x, hx, rfl⟩ := List.mem_map.1 hy
    exact typeLine_size (ht x (List.mem_of_mem_take hx))
  · rw [List.length_map, List.length_take]; omega
theorem funsT_size (h : modErr m = 0) (k : Nat) : (funsT m k).size ≤ 24 * 13 + 24 * 67 + 24 * 348678441000 := by
  obtain ⟨h24, _, _, hf⟩ := mod_parts h
  unfold funsT
  rw [ba_app_size]
  refine Nat.add_le_add (typesT_size h _) (Nat.le_trans (cat_size (c := 348678441000) _ fun y hy => ?_) (Nat.mul_le_mul_right _ ?_))
  · obtain ⟨x, hx, rfl⟩ := List.mem_map.1 hy
    exact funLine_size (hf x (List.mem_of_mem_take hx))
  · rw [List.length_map, List.length_take]; omega
end

end Go.Proofs.YtoejhgbndehaiaaDoor
