/- The arguments as the row reads them, opened into plain data: what the cells of each type stand for. -/
import Derived.Test.YtjaladhdnbhliaaGreatDoorFunc
import Derived.Test.YtjaladhdnbhliaaGreatDoorLaw
namespace Go.Proofs.YtjaladhdnbhliaaGreatDoor
open Go.ChangeShapes Go.WideShapes Go.ChangeAt Go.RowKit

/-- Whatever reads as data of a type stands for a thing. -/
def Opens (N : Nat) (P : Program) {α : Type} (R : CR α) (t : TypeId) : Prop :=
  ∀ (H : Type) (enc : TypeId × Value → H) (w : World) (fuel : Nat) (cs : List Value) (d : DataW H) (ps : List MemPlace), fuel ≤ N →
    DataW.trod enc P w 0 (fun _ => true) true fuel t cs = some (d, ps) → (∀ x ∈ ps, x.block < w.heap.size) → (∀ n ∈ d.weights P t, n ≤ reachBytes) → ∃ x, R w (old w.heap.size) cs x

def IntR : CR Int := fun _ _ cs n => cs = [.int .i64 n] ∧ I64 n
def BoolR : CR Bool := fun _ _ cs b => cs = [.bool b]

/-- What a slice's own cell stands for. -/
def SlR {α : Type} (R : CR α) (sz by_ : Nat) : CR (List α) := fun w F cs l => ∃ v, cs = [v] ∧ SliceOf R sz by_ w F v l

theorem i64_of_wf {n : Int} (h : (Lit.int .i64 n).wf = true) : I64 n := by
  have h1 : IntKind.i64.min = -9223372036854775808 := rfl
  have h2 : IntKind.i64.max = 9223372036854775807 := rfl
  simp only [Lit.wf, Bool.and_eq_true, decide_eq_true_eq] at h
  unfold I64
  omega

section
variable {P : Program}

theorem opens_str {N : Nat} {t : TypeId} (ht : P.underlying t = some .string) : Opens N P StrR t := by
  intro H enc w fuel cs d ps _ h _ hw
  obtain ⟨s, rfl, hx, _⟩ := DataW.trod_string ht h
  simp only [Prod.mk.injEq] at hx
  obtain ⟨rfl, rfl⟩ := hx
  exact ⟨s, rfl, size_of_reach (hw _ (by simp [DataW.weights]))⟩
theorem opens_int {N : Nat} {t : TypeId} (ht : P.underlying t = some (.int .i64)) : Opens N P IntR t := by
  intro H enc w fuel cs d ps _ h _ _
  obtain ⟨n, rfl, _, hn⟩ := DataW.trod_int ht h
  exact ⟨n, rfl, i64_of_wf hn⟩
theorem opens_bool {N : Nat} {t : TypeId} (ht : P.underlying t = some .bool) : Opens N P BoolR t := by
  intro H enc w fuel cs d ps _ h _ _
  cases fuel with
  | zero => simp [DataW.trod] at h
  | succ n =>
    unfold DataW.trod at h
    rw [ht] at h
    split at h <;> simp_all [BoolR]

/-- A field of a struct. -/
theorem open_field' {N : Nat} {α : Type} {R : CR α} {t : TypeId} {fs : Array Go.Field} {H : Type} {enc : TypeId × Value → H} {w : World} {fuel : Nat} {cs : List Value} {d : DataW H} {ps : List MemPlace}
    (ht : P.underlying t = some (.struct fs)) (h : DataW.trod enc P w 0 (fun _ => true) true fuel t cs = some (d, ps)) (hb : ∀ x ∈ ps, x.block < w.heap.size) (hw : ∀ n ∈ d.weights P t, n ≤ reachBytes) (hN : fuel ≤ N + 1)
    (i : Nat) (f : Go.Field) (hf : fs[i]? = some f) (ft : TypeId) (o k : Nat) (h1 : f.type = ft) (h2 : f.offset = o) (h3 : P.cellsOf ft = k) (hO : Opens N P R ft) : ∃ x, R w (old w.heap.size) ((cs.drop o).take k) x := by
  subst h1; subst h2; subst h3
  obtain ⟨xs, n, hfu, hx, _, hlen, hg⟩ := DataW.trod_struct ht h
  simp only [Prod.mk.injEq] at hx
  obtain ⟨rfl, rfl⟩ := hx
  have hi : i < fs.size := (Array.getElem?_eq_some_iff.1 hf).1
  have hxi : xs[i]? = some (xs[i]'(by omega)) := List.getElem?_eq_getElem (by omega)
  have h1 := hg i f hf
  rw [hxi] at h1
  refine hO H enc w n _ _ _ (by omega) h1 (fun x hx => hb x ?_) (fun m hm => hw m ?_)
  · exact List.mem_flatMap.2 ⟨_, List.getElem_mem _, hx⟩
  · simp only [DataW.weights, ht]
    refine DataW.weights_mem_each (j := i) (t := f.type) (d := (xs[i]'(by omega)).1) ?_ ?_ m hm
    · rw [List.getElem?_map]
      have : fs.toList[i]? = some f := by simpa using hf
      rw [this]; rfl
    · rw [List.getElem?_map, hxi]; rfl
theorem Opens.less {N M : Nat} {α : Type} {R : CR α} {t : TypeId} (h : Opens N P R t) (hM : M ≤ N) : Opens M P R t :=
  fun H enc w fuel cs d ps hf h1 h2 h3 => h H enc w fuel cs d ps (Nat.le_trans hf hM) h1 h2 h3
theorem open_field {N : Nat} {α : Type} {R : CR α} {t : TypeId} {fs : Array Go.Field} {H : Type} {enc : TypeId × Value → H} {w : World} {fuel : Nat} {cs : List Value} {d : DataW H} {ps : List MemPlace}
    (ht : P.underlying t = some (.struct fs)) (h : DataW.trod enc P w 0 (fun _ => true) true fuel t cs = some (d, ps)) (hb : ∀ x ∈ ps, x.block < w.heap.size) (hw : ∀ n ∈ d.weights P t, n ≤ reachBytes) (hN : fuel ≤ N)
    (i : Nat) (f : Go.Field) (hf : fs[i]? = some f) (ft : TypeId) (o k : Nat) (h1 : f.type = ft) (h2 : f.offset = o) (h3 : P.cellsOf ft = k) (hO : Opens N P R ft) : ∃ x, R w (old w.heap.size) ((cs.drop o).take k) x :=
  open_field' ht h hb hw (Nat.le_succ_of_le hN) i f hf ft o k h1 h2 h3 hO

theorem weights_mem_all {H : Type} {e : TypeId} : ∀ {ds : List (DataW H)} {d : DataW H}, d ∈ ds → ∀ n ∈ d.weights P e, n ∈ DataW.weightsAll P e ds
  | d0 :: ds, d, hd, n, hn => by
    simp only [DataW.weightsAll, List.mem_append]
    rcases List.mem_cons.1 hd with rfl | hd
    · exact Or.inl hn
    · exact Or.inr (weights_mem_all hd n hn)

theorem list_of {α : Type} {p : Nat → α → Prop} : ∀ (n : Nat), (∀ i, i < n → ∃ x, p i x) → ∃ l : List α, l.length = n ∧ ∀ i x, l[i]? = some x → p i x
  | 0, _ => ⟨[], rfl, fun i x h => by simp at h⟩
  | n + 1, h => by
    obtain ⟨l, hl, hp⟩ := list_of n (fun i hi => h i (by omega))
    obtain ⟨x, hx⟩ := h n (by omega)
    refine ⟨l ++ [x], by simp [hl], fun i y hy => ?_⟩
    by_cases hi : i < n
    · rw [List.getElem?_append_left (by omega)] at hy
      exact hp i y hy
    · have hil := (List.getElem?_eq_some_iff.1 hy).1
      simp [hl] at hil
      obtain rfl : i = n := by omega
      rw [List.getElem?_append_right (by omega), hl] at hy
      simp at hy
      rw [← hy]; exact hx

/-- A slice: each element read stands for a thing. -/
theorem opens_slice {N : Nat} {α : Type} {R : CR α} {t e : TypeId} {sz by_ : Nat} (ht : P.underlying t = some (.slice e)) (hO : Opens N P R e) (hsz : P.cellsOf e = sz) (hpos : 0 < sz) (hby : P.bytesOf e = by_) (hbp : 0 < by_) :
    Opens N P (SlR R sz by_) t := by
  intro H enc w fuel cs d ps hN h hb hw
  rcases DataW.trod_slice ht h with ⟨rfl, _⟩ | ⟨a, len, cap, elems, rest, n, hfu, rfl, hx, _, hlc, hcm, hel, hge, _, _⟩
  · exact ⟨[], _, rfl, SliceOf.nil_⟩
  · simp only [Prod.mk.injEq] at hx
    obtain ⟨rfl, rfl⟩ := hx
    subst hsz; subst hby
    have hw0 : (elems.length + rest.length) * P.bytesOf e ≤ reachBytes := by
      have := hw ((elems.length + rest.length) * P.bytesOf e) (by simp [DataW.weights, ht])
      exact this
    have hlb : len * P.bytesOf e ≤ reachBytes := Nat.le_trans (Nat.mul_le_mul_right _ (by omega)) hw0
    have hl1 : len ≤ len * P.bytesOf e := Nat.le_mul_of_pos_right _ hbp
    have hrb : reachBytes ≤ 140737488355328 := by unfold reachBytes; omega
    obtain ⟨l, hll, hlp⟩ := list_of (p := fun i x => ∃ cs' : List Value, cs'.length = P.cellsOf e ∧ R w (old w.heap.size) cs' x ∧ ∀ j, j < P.cellsOf e → w.cell? (a.add (i * P.cellsOf e + j)) = cs'[j]?) len (fun i hi => by
      have h1 := hge i hi
      have hxi : elems[i]? = some (elems[i]'(by omega)) := List.getElem?_eq_getElem (by omega)
      rw [hxi] at h1
      obtain ⟨cs', hc1, hc2⟩ := Option.bind_eq_some_iff.1 h1
      obtain ⟨_, hcl, hat⟩ := World.cells?_some hc1
      obtain ⟨x, hxR⟩ := hO H enc w n cs' _ _ (by omega) hc2 (fun q hq => hb q (by
        rw [List.mem_append]; right
        exact List.mem_flatMap.2 ⟨_, by rw [List.mem_append]; left; exact List.getElem_mem _, hq⟩)) (fun m hm => hw m (by
        simp only [DataW.weights, ht, List.mem_cons, List.mem_append]
        right; left
        exact weights_mem_all (d := (elems[i]'(by omega)).1) (List.mem_map.2 ⟨_, List.getElem_mem _, rfl⟩) m hm))
      exact ⟨x, cs', hcl, hxR, fun j hj => by rw [← Go.Deep.add_add]; exact hat j hj⟩)
    refine ⟨l, _, rfl, some a, cap, by rw [hll], by omega, hcm, by rw [hll]; omega, by omega, fun hpos' => ?_⟩
    obtain ⟨cs0, hc0, _, hat0⟩ := hlp 0 l[0] (List.getElem?_eq_getElem hpos')
    have hcell := hat0 0 hpos
    rw [Nat.zero_mul, Nat.zero_add] at hcell
    have ha0 : a.add 0 = a := by unfold Addr.add; rfl
    rw [ha0, List.getElem?_eq_getElem (by omega)] at hcell
    have hspot : a.spot = none := by
      unfold World.cell? at hcell
      cases hs : a.spot with
      | none => rfl
      | some k => split at hcell <;> simp [hs] at hcell
    have hea : a = ⟨a.block, a.off, none⟩ := by cases a; simp at hspot; rw [hspot]
    refine ⟨a.block, a.off, by rw [← hea], World.block_lt_of_cell? w a hcell, fun i x hi => ?_⟩
    obtain ⟨cs', h1, h2, h3⟩ := hlp i x hi
    refine ⟨cs', h1, h2, fun j u hj => ?_⟩
    have hjl : j < P.cellsOf e := by rw [← h1]; exact (List.getElem?_eq_some_iff.1 hj).1
    have := h3 j hjl
    rw [hea, Addr.add_lit, hj] at this
    rw [← this, Nat.add_assoc]
end

/-! ### This program's types -/
theorem six_cells {cs : List Value} (h : cs.length = 6) : ∃ a b c d e f, cs = [a, b, c, d, e, f] := by
  match cs, h with | [a, b, c, d, e, f], _ => exact ⟨a, b, c, d, e, f, rfl⟩
theorem Tryz.cells_string : Tryz.prog.cellsOf 9 = 1 := by kernel_rfl
theorem Tryz.cells_int : Tryz.prog.cellsOf 3 = 1 := by kernel_rfl
theorem Tryz.cells_bool : Tryz.prog.cellsOf 4 = 1 := by kernel_rfl
theorem Tryz.cells_sl_string : Tryz.prog.cellsOf 23 = 1 := by kernel_rfl
theorem Tryz.bytes_string : Tryz.prog.bytesOf 9 = 16 := by kernel_rfl
theorem opens_s {N : Nat} : Opens N Tryz.prog StrR 9 := opens_str Tryz.underlying9
theorem opens_n {N : Nat} : Opens N Tryz.prog IntR 3 := opens_int Tryz.underlying3
theorem opens_b {N : Nat} : Opens N Tryz.prog BoolR 4 := opens_bool Tryz.underlying4
theorem opens_strs {N : Nat} : Opens N Tryz.prog (SlR StrR 1 16) 23 := opens_slice Tryz.underlying23 opens_s Tryz.cells_string (by decide) Tryz.bytes_string (by decide)

theorem weights_of {H : Type} {P : Program} {ts : List TypeId} {ds : List (DataW H)} (h : (DataW.weightsEach P ts ds).all (· ≤ reachBytes) = true) {j : Nat} {t : TypeId} {d : DataW H} (ht : ts[j]? = some t) (hd : ds[j]? = some d) : ∀ n ∈ d.weights P t, n ≤ reachBytes :=
  fun n hn => by simpa using List.all_eq_true.1 h n (DataW.weights_mem_each ht hd n hn)
/-- An argument that is a slice; one that is a struct. -/
theorem arg_slice {P : Program} {α : Type} {R : CR α} {sz by_ : Nat} {t e : TypeId} {r : Reach} {base : Nat} {H : Type} {enc : TypeId × Value → H} {w : World} {v : Value} {d : DataW H} {ps : List MemPlace} (ht : P.underlying t = some (.slice e)) (hO : ∀ N, Opens N P (SlR R sz by_) t)
    (hval : Value.okWide P w r base t v) (h : DataW.Trod enc P w 0 (fun _ => true) true t v d ps) (hb : ∀ x ∈ ps, x.block < w.heap.size) (hw : ∀ n ∈ d.weights P t, n ≤ reachBytes) : ∃ l, SliceOf R sz by_ w (old w.heap.size) v l := by
  obtain ⟨a, len, cap, rfl⟩ := okWide_slice ht hval
  obtain ⟨fuel, hf⟩ := h
  obtain ⟨l, v', hv, hl⟩ := hO fuel H enc w fuel _ d ps (Nat.le_refl _) hf hb hw
  have : Value.slice a len cap = v' := by
    have hv2 : [Value.slice a len cap] = [v'] := hv
    injection hv2
  rw [this]
  exact ⟨l, hl⟩
theorem arg_struct {P : Program} {α : Type} {R : CR α} {t : TypeId} {fs : Array Go.Field} {r : Reach} {base : Nat} {H : Type} {enc : TypeId × Value → H} {w : World} {v : Value} {d : DataW H} {ps : List MemPlace} (ht : P.underlying t = some (.struct fs)) (hO : ∀ N, Opens N P R t)
    (hval : Value.okWide P w r base t v) (h : DataW.Trod enc P w 0 (fun _ => true) true t v d ps) (hb : ∀ x ∈ ps, x.block < w.heap.size) (hw : ∀ n ∈ d.weights P t, n ≤ reachBytes) : ∃ cs x, v = .agg (List.toArray cs) ∧ R w (old w.heap.size) cs x := by
  obtain ⟨cs, rfl, _⟩ := okWide_struct ht hval
  obtain ⟨fuel, hf⟩ := h
  obtain ⟨x, hx⟩ := hO fuel H enc w fuel _ d ps (Nat.le_refl _) hf hb hw
  exact ⟨cs.toList, x, rfl, hx⟩


theorem Tryz.cells_Known : Tryz.prog.cellsOf 100 = 2 := by kernel_rfl
theorem Tryz.bytes_Known : Tryz.prog.bytesOf 100 = 32 := by kernel_rfl
theorem opens_known {N : Nat} : Opens N Tryz.prog KnownR 100 := by
  intro H enc w fuel cs d ps hN h hb hw
  obtain ⟨xs, n, _, _, hl, _, _⟩ := DataW.trod_struct Tryz.underlying100 h
  rw [Tryz.cells_Known] at hl
  obtain ⟨c0, c1, rfl⟩ := two_cells hl
  obtain ⟨x0, e0, z0⟩ := open_field Tryz.underlying100 h hb hw hN 0 _ rfl 9 0 1 rfl rfl Tryz.cells_string opens_s
  obtain ⟨x1, e1, z1⟩ := open_field Tryz.underlying100 h hb hw hN 1 _ rfl 9 1 1 rfl rfl Tryz.cells_string opens_s
  obtain rfl : c0 = .string x0 := by injection e0
  obtain rfl : c1 = .string x1 := by injection e1
  exact ⟨⟨x0, x1⟩, rfl, z0, z1⟩


theorem Tryz.cells_sl_Known : Tryz.prog.cellsOf 39 = 1 := by kernel_rfl
theorem opens_knowns {N : Nat} : Opens N Tryz.prog (SlR KnownR 2 32) 39 := opens_slice Tryz.underlying39 opens_known Tryz.cells_Known (by decide) Tryz.bytes_Known (by decide)


theorem Tryz.cells_Sig : Tryz.prog.cellsOf 62 = 3 := by kernel_rfl
theorem Tryz.bytes_Sig : Tryz.prog.bytesOf 62 = 56 := by kernel_rfl
theorem opens_sig {N : Nat} : Opens N Tryz.prog SigR 62 := by
  intro H enc w fuel cs d ps hN h hb hw
  obtain ⟨xs, n, _, _, hl, _, _⟩ := DataW.trod_struct Tryz.underlying62 h
  rw [Tryz.cells_Sig] at hl
  obtain ⟨c0, c1, c2, rfl⟩ := three_cells hl
  obtain ⟨x0, e0, z0⟩ := open_field Tryz.underlying62 h hb hw hN 0 _ rfl 9 0 1 rfl rfl Tryz.cells_string opens_s
  obtain ⟨x1, v1, e1, z1⟩ := open_field Tryz.underlying62 h hb hw hN 1 _ rfl 23 1 1 rfl rfl Tryz.cells_sl_string opens_strs
  obtain ⟨x2, e2, z2⟩ := open_field Tryz.underlying62 h hb hw hN 2 _ rfl 9 2 1 rfl rfl Tryz.cells_string opens_s
  obtain rfl : c0 = .string x0 := by injection e0
  obtain rfl : c1 = v1 := by injection e1
  obtain rfl : c2 = .string x2 := by injection e2
  exact ⟨⟨x0, x1, x2⟩, _, rfl, z0, z2, z1⟩


theorem Tryz.cells_sl_Sig : Tryz.prog.cellsOf 40 = 1 := by kernel_rfl
theorem opens_sigs {N : Nat} : Opens N Tryz.prog (SlR SigR 3 56) 40 := opens_slice Tryz.underlying40 opens_sig Tryz.cells_Sig (by decide) Tryz.bytes_Sig (by decide)


theorem Tryz.cells_Diag : Tryz.prog.cellsOf 53 = 2 := by kernel_rfl
theorem Tryz.bytes_Diag : Tryz.prog.bytesOf 53 = 24 := by kernel_rfl
theorem opens_diag {N : Nat} : Opens N Tryz.prog DiagR 53 := by
  intro H enc w fuel cs d ps hN h hb hw
  obtain ⟨xs, n, _, _, hl, _, _⟩ := DataW.trod_struct Tryz.underlying53 h
  rw [Tryz.cells_Diag] at hl
  obtain ⟨c0, c1, rfl⟩ := two_cells hl
  obtain ⟨x0, e0, z0⟩ := open_field Tryz.underlying53 h hb hw hN 0 _ rfl 9 0 1 rfl rfl Tryz.cells_string opens_s
  obtain ⟨x1, e1, z1⟩ := open_field Tryz.underlying53 h hb hw hN 1 _ rfl 3 1 1 rfl rfl Tryz.cells_int opens_n
  obtain rfl : c0 = .string x0 := by injection e0
  obtain rfl : c1 = .int .i64 x1 := by injection e1
  exact ⟨⟨x0, x1⟩, rfl, z0, z1⟩


theorem Tryz.cells_sl_Diag : Tryz.prog.cellsOf 43 = 1 := by kernel_rfl
theorem opens_diags {N : Nat} : Opens N Tryz.prog (SlR DiagR 2 24) 43 := opens_slice Tryz.underlying43 opens_diag Tryz.cells_Diag (by decide) Tryz.bytes_Diag (by decide)


theorem Tryz.cells_Face : Tryz.prog.cellsOf 42 = 2 := by kernel_rfl
theorem Tryz.bytes_Face : Tryz.prog.bytesOf 42 = 48 := by kernel_rfl
theorem opens_face {N : Nat} : Opens N Tryz.prog FaceR 42 := by
  intro H enc w fuel cs d ps hN h hb hw
  obtain ⟨xs, n, _, _, hl, _, _⟩ := DataW.trod_struct Tryz.underlying42 h
  rw [Tryz.cells_Face] at hl
  obtain ⟨c0, c1, rfl⟩ := two_cells hl
  obtain ⟨x0, v0, e0, z0⟩ := open_field Tryz.underlying42 h hb hw hN 0 _ rfl 39 0 1 rfl rfl Tryz.cells_sl_Known opens_knowns
  obtain ⟨x1, v1, e1, z1⟩ := open_field Tryz.underlying42 h hb hw hN 1 _ rfl 40 1 1 rfl rfl Tryz.cells_sl_Sig opens_sigs
  obtain rfl : c0 = v0 := by injection e0
  obtain rfl : c1 = v1 := by injection e1
  exact ⟨⟨x0, x1⟩, _, _, rfl, z0, z1⟩


theorem Tryz.cells_Import : Tryz.prog.cellsOf 68 = 4 := by kernel_rfl
theorem Tryz.bytes_Import : Tryz.prog.bytesOf 68 = 72 := by kernel_rfl
theorem opens_import {N : Nat} : Opens N Tryz.prog ImportR 68 := by
  intro H enc w fuel cs d ps hN h hb hw
  obtain ⟨xs, n, _, _, hl, _, _⟩ := DataW.trod_struct Tryz.underlying68 h
  rw [Tryz.cells_Import] at hl
  obtain ⟨c0, c1, c2, c3, rfl⟩ := four_cells hl
  obtain ⟨x0, e0, z0⟩ := open_field Tryz.underlying68 h hb hw hN 0 _ rfl 9 0 1 rfl rfl Tryz.cells_string opens_s
  obtain ⟨x1, e1⟩ := open_field Tryz.underlying68 h hb hw hN 1 _ rfl 4 1 1 rfl rfl Tryz.cells_bool opens_b
  obtain ⟨x2, z2⟩ := open_field Tryz.underlying68 h hb hw hN 2 _ rfl 42 2 2 rfl rfl Tryz.cells_Face opens_face
  obtain rfl : c0 = .string x0 := by injection e0
  obtain rfl : c1 = .bool x1 := by injection e1
  exact ⟨⟨x0, x1, x2⟩, _, _, rfl, z0, z2⟩


theorem Tryz.cells_sl_Import : Tryz.prog.cellsOf 38 = 1 := by kernel_rfl
theorem opens_imports {N : Nat} : Opens N Tryz.prog (SlR ImportR 4 72) 38 := opens_slice Tryz.underlying38 opens_import Tryz.cells_Import (by decide) Tryz.bytes_Import (by decide)








theorem Tryz.cells_Type : Tryz.prog.cellsOf 75 = 4 := by kernel_rfl
theorem Tryz.bytes_Type : Tryz.prog.bytesOf 75 = 64 := by kernel_rfl
theorem Tryz.cells_sl_Type : Tryz.prog.cellsOf 73 = 1 := by kernel_rfl
theorem opens_tyn : ∀ N : Nat, Opens N Tryz.prog (TyRn N) 75
  | 0 => by
    intro H enc w fuel cs d ps hN h hb hw
    obtain rfl : fuel = 0 := by omega
    simp [DataW.trod] at h
  | N + 1 => by
    intro H enc w fuel cs d ps hN h hb hw
    have ih : Opens N Tryz.prog (SlR (TyRn N) 4 64) 73 := opens_slice Tryz.underlying73 (opens_tyn N) Tryz.cells_Type (by decide) Tryz.bytes_Type (by decide)
    obtain ⟨xs, n, _, _, hl, _, _⟩ := DataW.trod_struct Tryz.underlying75 h
    rw [Tryz.cells_Type] at hl
    obtain ⟨c0, c1, c2, c3, rfl⟩ := four_cells hl
    obtain ⟨x0, e0, z0⟩ := open_field' Tryz.underlying75 h hb hw hN 0 _ rfl 3 0 1 rfl rfl Tryz.cells_int opens_n
    obtain ⟨x1, e1, z1⟩ := open_field' Tryz.underlying75 h hb hw hN 1 _ rfl 9 1 1 rfl rfl Tryz.cells_string opens_s
    obtain ⟨x2, e2, z2⟩ := open_field' Tryz.underlying75 h hb hw hN 2 _ rfl 9 2 1 rfl rfl Tryz.cells_string opens_s
    obtain ⟨x3, v3, e3, z3⟩ := open_field' Tryz.underlying75 h hb hw hN 3 _ rfl 73 3 1 rfl rfl Tryz.cells_sl_Type ih
    obtain rfl : c0 = .int .i64 x0 := by injection e0
    obtain rfl : c1 = .string x1 := by injection e1
    obtain rfl : c2 = .string x2 := by injection e2
    obtain rfl : c3 = v3 := by injection e3
    exact ⟨.mk x0 x1 x2 x3, _, rfl, z0, z1, z2, z3⟩
theorem opens_ty {N : Nat} : Opens N Tryz.prog TyR 75 := fun H enc w fuel cs d ps _ h hb hw =>
  let ⟨x, hx⟩ := opens_tyn fuel H enc w fuel cs d ps (Nat.le_refl _) h hb hw
  ⟨x, fuel, hx⟩

theorem Tryz.cells_Expr : Tryz.prog.cellsOf 81 = 5 := by kernel_rfl
theorem Tryz.bytes_Expr : Tryz.prog.bytesOf 81 = 72 := by kernel_rfl
theorem Tryz.cells_sl_Expr : Tryz.prog.cellsOf 79 = 1 := by kernel_rfl
theorem opens_exn : ∀ N : Nat, Opens N Tryz.prog (ExRn N) 81
  | 0 => by
    intro H enc w fuel cs d ps hN h hb hw
    obtain rfl : fuel = 0 := by omega
    simp [DataW.trod] at h
  | N + 1 => by
    intro H enc w fuel cs d ps hN h hb hw
    have ih : Opens N Tryz.prog (SlR (ExRn N) 5 72) 79 := opens_slice Tryz.underlying79 (opens_exn N) Tryz.cells_Expr (by decide) Tryz.bytes_Expr (by decide)
    obtain ⟨xs, n, _, _, hl, _, _⟩ := DataW.trod_struct Tryz.underlying81 h
    rw [Tryz.cells_Expr] at hl
    obtain ⟨c0, c1, c2, c3, c4, rfl⟩ := five_cells hl
    obtain ⟨x0, e0, z0⟩ := open_field' Tryz.underlying81 h hb hw hN 0 _ rfl 3 0 1 rfl rfl Tryz.cells_int opens_n
    obtain ⟨x1, e1, z1⟩ := open_field' Tryz.underlying81 h hb hw hN 1 _ rfl 3 1 1 rfl rfl Tryz.cells_int opens_n
    obtain ⟨x2, e2, z2⟩ := open_field' Tryz.underlying81 h hb hw hN 2 _ rfl 9 2 1 rfl rfl Tryz.cells_string opens_s
    obtain ⟨x3, e3, z3⟩ := open_field' Tryz.underlying81 h hb hw hN 3 _ rfl 9 3 1 rfl rfl Tryz.cells_string opens_s
    obtain ⟨x4, v4, e4, z4⟩ := open_field' Tryz.underlying81 h hb hw hN 4 _ rfl 79 4 1 rfl rfl Tryz.cells_sl_Expr ih
    obtain rfl : c0 = .int .i64 x0 := by injection e0
    obtain rfl : c1 = .int .i64 x1 := by injection e1
    obtain rfl : c2 = .string x2 := by injection e2
    obtain rfl : c3 = .string x3 := by injection e3
    obtain rfl : c4 = v4 := by injection e4
    exact ⟨.mk x0 x1 x2 x3 x4, _, rfl, z0, z1, z2, z3, z4⟩
theorem opens_ex {N : Nat} : Opens N Tryz.prog ExR 81 := fun H enc w fuel cs d ps _ h hb hw =>
  let ⟨x, hx⟩ := opens_exn fuel H enc w fuel cs d ps (Nat.le_refl _) h hb hw
  ⟨x, fuel, hx⟩


theorem Tryz.cells_Field : Tryz.prog.cellsOf 78 = 5 := by kernel_rfl
theorem Tryz.bytes_Field : Tryz.prog.bytesOf 78 = 80 := by kernel_rfl
theorem opens_field {N : Nat} : Opens N Tryz.prog FieldR 78 := by
  intro H enc w fuel cs d ps hN h hb hw
  obtain ⟨xs, n, _, _, hl, _, _⟩ := DataW.trod_struct Tryz.underlying78 h
  rw [Tryz.cells_Field] at hl
  obtain ⟨c0, c1, c2, c3, c4, rfl⟩ := five_cells hl
  obtain ⟨x0, e0, z0⟩ := open_field Tryz.underlying78 h hb hw hN 0 _ rfl 9 0 1 rfl rfl Tryz.cells_string opens_s
  obtain ⟨x1, z1⟩ := open_field Tryz.underlying78 h hb hw hN 1 _ rfl 75 1 4 rfl rfl Tryz.cells_Type opens_ty
  obtain rfl : c0 = .string x0 := by injection e0
  exact ⟨⟨x0, x1⟩, _, rfl, z0, z1⟩


theorem Tryz.cells_sl_Field : Tryz.prog.cellsOf 24 = 1 := by kernel_rfl
theorem opens_fields {N : Nat} : Opens N Tryz.prog (SlR FieldR 5 80) 24 := opens_slice Tryz.underlying24 opens_field Tryz.cells_Field (by decide) Tryz.bytes_Field (by decide)


theorem Tryz.cells_Func : Tryz.prog.cellsOf 83 = 12 := by kernel_rfl
theorem Tryz.bytes_Func : Tryz.prog.bytesOf 83 = 192 := by kernel_rfl
theorem opens_fn {N : Nat} : Opens N Tryz.prog FuncR 83 := by
  intro H enc w fuel cs d ps hN h hb hw
  obtain ⟨xs, n, _, _, hl, _, _⟩ := DataW.trod_struct Tryz.underlying83 h
  rw [Tryz.cells_Func] at hl
  obtain ⟨c0, c1, c2, c3, c4, c5, c6, c7, c8, c9, c10, c11, rfl⟩ := twelve_cells hl
  obtain ⟨x0, e0, z0⟩ := open_field Tryz.underlying83 h hb hw hN 0 _ rfl 9 0 1 rfl rfl Tryz.cells_string opens_s
  obtain ⟨x1, e1, z1⟩ := open_field Tryz.underlying83 h hb hw hN 1 _ rfl 9 1 1 rfl rfl Tryz.cells_string opens_s
  obtain ⟨x2, v2, e2, z2⟩ := open_field Tryz.underlying83 h hb hw hN 2 _ rfl 24 2 1 rfl rfl Tryz.cells_sl_Field opens_fields
  obtain ⟨x3, z3⟩ := open_field Tryz.underlying83 h hb hw hN 3 _ rfl 75 3 4 rfl rfl Tryz.cells_Type opens_ty
  obtain ⟨x4, z4⟩ := open_field Tryz.underlying83 h hb hw hN 4 _ rfl 81 7 5 rfl rfl Tryz.cells_Expr opens_ex
  obtain rfl : c0 = .string x0 := by injection e0
  obtain rfl : c1 = .string x1 := by injection e1
  obtain rfl : c2 = v2 := by injection e2
  exact ⟨⟨x0, x1, x2, x3, x4⟩, _, [c3, c4, c5, c6], [c7, c8, c9, c10, c11], rfl, z0, z1, z2, z3, z4⟩


theorem Tryz.cells_sl_Func : Tryz.prog.cellsOf 25 = 1 := by kernel_rfl
theorem opens_fns {N : Nat} : Opens N Tryz.prog (SlR FuncR 12 192) 25 := opens_slice Tryz.underlying25 opens_fn Tryz.cells_Func (by decide) Tryz.bytes_Func (by decide)


theorem Tryz.cells_Module : Tryz.prog.cellsOf 27 = 3 := by kernel_rfl
theorem Tryz.bytes_Module : Tryz.prog.bytesOf 27 = 72 := by kernel_rfl
theorem opens_module {N : Nat} : Opens N Tryz.prog ModuleR 27 := by
  intro H enc w fuel cs d ps hN h hb hw
  obtain ⟨xs, n, _, _, hl, _, _⟩ := DataW.trod_struct Tryz.underlying27 h
  rw [Tryz.cells_Module] at hl
  obtain ⟨c0, c1, c2, rfl⟩ := three_cells hl
  obtain ⟨x0, v0, e0, z0⟩ := open_field Tryz.underlying27 h hb hw hN 0 _ rfl 23 0 1 rfl rfl Tryz.cells_sl_string opens_strs
  obtain ⟨x1, v1, e1, z1⟩ := open_field Tryz.underlying27 h hb hw hN 1 _ rfl 24 1 1 rfl rfl Tryz.cells_sl_Field opens_fields
  obtain ⟨x2, v2, e2, z2⟩ := open_field Tryz.underlying27 h hb hw hN 2 _ rfl 25 2 1 rfl rfl Tryz.cells_sl_Func opens_fns
  obtain rfl : c0 = v0 := by injection e0
  obtain rfl : c1 = v1 := by injection e1
  obtain rfl : c2 = v2 := by injection e2
  exact ⟨⟨x0, x1, x2⟩, _, _, _, rfl, z0, z1, z2⟩


end Go.Proofs.YtjaladhdnbhliaaGreatDoor
