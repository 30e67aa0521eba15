/- Texts that belong together: BodyOneP, BodyRef, BodyOne, BodyOnesW. -/
import Derived.Test.YthedfpcdibhfpaaDoorBodies
import Derived.Test.YthedfpcdibhfpaaDoorImpErr
import Derived.Test.YthedfpcdibhfpaaDoorSigPlain
import Derived.Test.YthedfpcdibhfpaaDoorSigOf
import Derived.Test.YthedfpcdibhfpaaDoorSignOne
import Derived.Test.YthedfpcdibhfpaaDoorFaceRef
import Derived.Deep.RegionHeld3
import Derived.Deep.CutBlock
import Derived.Deep.RegionLaw
import Derived.Handy
/- What is wrong with a function's body. Plain facts. -/
namespace Go.Proofs.YthedfpcdibhfpaaDoor
open Go.RowKit

theorem import_face {l : List Import} (h : importsErr l = 0) {x : Import} (hx : x ∈ l) : faceErr x.face = 0 := by
  unfold importsErr at h
  split at h
  · cases h
  · have hb := itemErr_good (firstErr_zero h) x hx
    unfold importBad at hb
    split at hb
    · cases hb
    · split at hb
      · next h1 => exact absurd hb h1
      · next h1 => exact Classical.not_not.1 h1
theorem called_rising {m : Module} {l : List Import} {own : Face} (ho : faceErr own = 0) (hl : importsErr l = 0) (o : ByteArray) : Rising Sig.name (calledFace m l own o).funcs := by
  unfold calledFace
  split
  · exact (face_rising ho).2.1
  · unfold fromFace
    cases hf : fromOf m l o with
    | none => intro i x y hx _; simp [noFace] at hx
    | some x =>
      have hx : x ∈ l := by
        unfold fromOf at hf
        split at hf
        · exact List.mem_of_find?_eq_some hf
        · cases hf
      exact (face_rising (import_face hl hx)).2.1

/-- The parameters of a function, with what they are. -/
def bodyPars (f : Func) (S : Sig) : List Known := (f.params.zip S.params).map fun x => ⟨x.1.name, x.2⟩
def bodyEnd (S : Sig) (E : ByteArray × Int) : Int := if E.2 = 0 ∧ eqB E.1 S.result = false then 8 else E.2
/-- What is wrong with a body; 0: nothing. -/
def bodyR (m : Module) (l : List Import) (own : Face) (k : Nat) : Int := match m.funcs[k]? with
  | some f => if (sigOne m l k).2 ≠ 0 then (sigOne m l k).2 else bodyEnd (sigOne m l k).1 (isR m l own (bodyPars f (sigOne m l k).1) 10 f.body)
  | none => 0

section
variable {m : Module} {l : List Import} {own : Face} {k : Nat} {f : Func}
theorem body_code {z : Int} (hf : m.funcs[k]? = some f) (h : (sigOne m l k).2 = z) (h0 : z ≠ 0) : bodyR m l own k = z := by
  subst h
  unfold bodyR; rw [hf]; simp only; rw [if_pos h0]
theorem body_fine {S : Sig} (hf : m.funcs[k]? = some f) (h : sigOne m l k = (S, 0)) : bodyR m l own k = bodyEnd S (isR m l own (bodyPars f S) 10 f.body) := by
  unfold bodyR; rw [hf]; simp only; rw [h, if_neg (by simp)]
theorem sig_count {S : Sig} (hf : m.funcs[k]? = some f) (h : sigOne m l k = (S, 0)) : S.params.length = f.params.length := by
  unfold sigOne at h
  rw [hf] at h
  simp only at h
  split at h
  · injection h with _ h; cases h
  split at h
  · next h2 => injection h with _ h; exact absurd h h2
  split at h
  · next h2 => injection h with _ h; exact absurd h h2
  · injection h with h _
    subst h
    simp
theorem pars_length {S : Sig} (h : S.params.length = f.params.length) : (bodyPars f S).length = f.params.length := by unfold bodyPars; simp [h]
theorem pars_at {S : Sig} {j : Nat} {p : Field} {t : ByteArray} (hp : f.params[j]? = some p) (ht : S.params[j]? = some t) : (bodyPars f S)[j]? = some ⟨p.name, t⟩ := by
  unfold bodyPars
  rw [List.getElem?_map, (List.getElem?_zip_eq_some (z := (p, t))).2 ⟨hp, ht⟩]
  rfl
theorem pars_take {S : Sig} {j : Nat} {p : Field} {t : ByteArray} (hp : f.params[j]? = some p) (ht : S.params[j]? = some t) : (bodyPars f S).take (j + 1) = (bodyPars f S).take j ++ [⟨p.name, t⟩] := by
  rw [List.take_add_one, pars_at hp ht]
  rfl
theorem pars_ok {S : Sig} (h : ∀ s ∈ S.params, okS s) : ∀ p ∈ bodyPars f S, okS p.is_ := by
  intro p hp
  unfold bodyPars at hp
  obtain ⟨x, hx, rfl⟩ := List.mem_map.1 hp
  exact h _ (List.of_mem_zip hx).2
theorem bodyEnd_bad {S : Sig} {E : ByteArray × Int} {z : Int} (h : E.2 = z) (h0 : z ≠ 0) : bodyEnd S E = z := by subst h; unfold bodyEnd; rw [if_neg (fun e => h0 e.1)]
theorem bodyEnd_not {S : Sig} {E : ByteArray × Int} (h : E.2 = 0) (hq : eqB E.1 S.result = false) : bodyEnd S E = 8 := by unfold bodyEnd; rw [if_pos ⟨h, hq⟩]
theorem bodyEnd_fine {S : Sig} {E : ByteArray × Int} (h : E.2 = 0) (hq : eqB E.1 S.result = true) : bodyEnd S E = 0 := by unfold bodyEnd; rw [if_neg (fun e => by rw [e.2] at hq; cases hq), h]
end
theorem strs_ok {w : World} {F : Foot} {v : Value} {L : List ByteArray} (h : SliceOf StrR 1 16 w F v L) : ∀ s ∈ L, okS s := by
  intro s hs
  obtain ⟨j, hj, rfl⟩ := List.mem_iff_getElem.1 hs
  obtain ⟨A, c, rfl, _⟩ := h.form
  obtain ⟨_, _, _, _, _, _, ⟨_, h2⟩, _⟩ := h.at_ (k := j) hj
  exact h2

end Go.Proofs.YthedfpcdibhfpaaDoor

/- What is wrong with a function's body: the reference's BodyOf. -/
namespace Go.Proofs.YthedfpcdibhfpaaDoor
open Go.RowKit Go.Shelf

theorem known_cells {d : Known} : ∀ u ∈ [Value.string d.name, .string d.is_], u.oneCell' = true := by
  intro u hu
  simp only [List.mem_cons, List.not_mem_nil, or_false] at hu
  rcases hu with rfl | rfl <;> rfl

theorem eqB_lst (a b : ByteArray) : eqB a b = (a.toList == b.toList) := by unfold eqB; simp

set_option maxRecDepth 100000 in
set_option maxHeartbeats 16000000 in
theorem bodyOf_any (m : Module) (l : List Import) (own : Face) (hm0 : modErr m = 0) (hl0 : importsErr l = 0) (k : Nat) (ds : List Value) (lv : Value) (os : List Value) (w : World) (hk : k < m.funcs.length)
    (hm : ModuleR w (old w.heap.size) ds m) (hl : SliceOf ImportR 4 72 w (old w.heap.size) lv l) (ho : FaceR w (old w.heap.size) os own) :
    Calls Tryd.prog 13 #[.agg ds.toArray, lv, .agg os.toArray, .int .i64 k] w fun e w' => e = .returned (.int .i64 (bodyR m l own k)) ∧ Below w.heap.size w w' := by
  have hsg := fun U (hU : Below w.heap.size w U) => sigOf_any m l hm0 hl0 k ds lv U hk (now_up ModuleR.stays hm hU) (now_lup ImportR.stays hl hU)
  obtain ⟨U1, u1, T1, e1, T2, e2, rfl, _, _, hT⟩ := ModuleR.form hm
  obtain ⟨L1, l1, rfl, _⟩ := hl.form
  obtain ⟨T3, e3, T4, e4, rfl⟩ := FaceR.form ho
  have hkz : (k : Int) < (m.funcs.length : Int) := by omega
  have hfx := List.getElem?_eq_getElem hk
  have hff := fun_fine (mod_funcs hm0 _ (List.getElem_mem hk))
  obtain ⟨bt, off, cs, hT1, hbF, hcs, hfr, hcell⟩ := hT.at_ (k := k) hk
  generalize m.funcs[k] = f at hfx hff hfr
  obtain ⟨P1, p1, a1, a2, a3, a4, b1, b2, b3, b4, b5, rfl, hn0, hv0, hP, hR, hX⟩ := FuncR.form hfr
  obtain ⟨A3, n3, hf⟩ := ExR.form hX
  simp only [List.cons.injEq, and_true] at hf
  obtain ⟨rfl, rfl, rfl, rfl, rfl⟩ := hf
  have hc0 := hcell 0 _ rfl
  have hc1 := hcell 1 _ rfl
  have hc2 := hcell 2 _ rfl
  have hc3 := hcell 3 _ rfl
  have hc4 := hcell 4 _ rfl
  have hc5 := hcell 5 _ rfl
  have hc6 := hcell 6 _ rfl
  have hc7 := hcell 7 _ rfl
  have hc8 := hcell 8 _ rfl
  have hc9 := hcell 9 _ rfl
  have hc10 := hcell 10 _ rfl
  have hc11 := hcell 11 _ rfl
  simp only [Nat.add_zero] at hc0
  subst hT1
  have hTc := hT.cap
  have hPc := hP.cap
  have hq3 : bt < w.heap.size := hbF
  have hbc := fun (z : Int) h h0 => body_code (own := own) (z := z) hfx (l := l) h h0
  have hbf := fun (S : Sig) h => body_fine (own := own) (S := S) hfx (l := l) h
  have hsc := fun (S : Sig) h => sig_count (S := S) hfx (l := l) h
  obtain ⟨Z, hZ⟩ : ∃ z, bodyR m l own k = z := ⟨_, rfl⟩
  rw [hZ] at hbc hbf ⊢
  have hexr := hff.2.2.2.2
  have hp8 := hff.2.1
  have HSG := Lib.hid hsg; have HM := Lib.hid hm; have HL0 := Lib.hid hl; have HO := Lib.hid ho; have HT := Lib.hid hT; have HP := Lib.hid hP; have HX := Lib.hid hX; have HBC := Lib.hid hbc; have HBF := Lib.hid hbf; have HSC := Lib.hid hsc; have HEXR := Lib.hid hexr
  clear hsg hm hl ho hT hP hX hbc hbf hsc hexr
  clear hZ hfr hcell hcs hm0 hl0 hfx hff hbF hR hc0 hc1 hc3 hc4 hc5 hc6
  go_enter Tryd.func13, Tryd.ntmps13
  go_upto_region 1 with fail
  have hBb1 := ((Box.made w 26 #[.slice U1 m.uses.length u1, .slice T1 m.types.length e1, .slice (some ⟨bt, off, none⟩) m.funcs.length e2]).alloc (.cells #[.slice T3 own.types.length e3, .slice T4 own.funcs.length e4] 31))
  have hBb2 := (Box.made (w.alloc (.cells #[.slice U1 m.uses.length u1, .slice T1 m.types.length e1, .slice (some ⟨bt, off, none⟩) m.funcs.length e2] 26)) 31 #[.slice T3 own.types.length e3, .slice T4 own.funcs.length e4])
  rw [show (w.alloc (.cells #[.slice U1 m.uses.length u1, .slice T1 m.types.length e1, .slice (some ⟨bt, off, none⟩) m.funcs.length e2] 26)).heap.size = w.heap.size + 1 by simp only [World.size_alloc]] at hBb2
  have hbb : Below w.heap.size w ((w.alloc (.cells #[.slice U1 m.uses.length u1, .slice T1 m.types.length e1, .slice (some ⟨bt, off, none⟩) m.funcs.length e2] 26)).alloc (.cells #[.slice T3 own.types.length e3, .slice T4 own.funcs.length e4] 31)) := by go_grown
  have hzb : ((w.alloc (.cells #[.slice U1 m.uses.length u1, .slice T1 m.types.length e1, .slice (some ⟨bt, off, none⟩) m.funcs.length e2] 26)).alloc (.cells #[.slice T3 own.types.length e3, .slice T4 own.funcs.length e4] 31)).heap.size = w.heap.size + 1 + 1 := by simp only [World.size_alloc]
  generalize (w.alloc (.cells #[.slice U1 m.uses.length u1, .slice T1 m.types.length e1, .slice (some ⟨bt, off, none⟩) m.funcs.length e2] 26)).alloc (.cells #[.slice T3 own.types.length e3, .slice T4 own.funcs.length e4] 31) = W1 at hBb1 hBb2 hbb hzb ⊢
  have x0 := hBb1.at_ 0 _ rfl
  have x1 := hBb1.at_ 1 _ rfl
  have x2 := hBb1.at_ 2 _ rfl
  have hsg := HSG.out W1 hbb
  have HB1 := Lib.hid hBb1; have HB2 := Lib.hid hBb2; have HB := Lib.hid hbb; have HSGW := Lib.hid hsg; have HZB := Lib.hid hzb
  clear hBb1 hBb2 hbb hsg hzb
  clear HSG
  go_wp2_with fail
  refine HSGW.out.mono ?_
  rintro e W2 ⟨ds, rfl, hb2, hSr⟩
  obtain ⟨S, hS⟩ : ∃ S, (sigOne m l k).1 = S := ⟨_, rfl⟩
  obtain ⟨z, hz⟩ : ∃ z, (sigOne m l k).2 = z := ⟨_, rfl⟩
  rw [hS] at hSr
  rw [hz]
  obtain ⟨pv, rfl, hSn, hSres, hSp⟩ := hSr
  obtain ⟨A7, c7, rfl, _, _, hSl, _⟩ := hSp.form
  have hB1 := HB1.out.later hb2 HB1.out.lt
  have hB2 := HB2.out.later hb2 HB2.out.lt
  have hbw := below_step HB.out hb2
  have hbws : w.heap.size + 1 + 1 ≤ W2.heap.size := by have h1 := hb2.size; have := HZB.out; omega
  have HB1 := Lib.hid hB1; have HB2 := Lib.hid hB2; have HBW := Lib.hid hbw; have HSP := Lib.hid hSp; have HS := Lib.hid hS; have HZ := Lib.hid hz; have HBWS := Lib.hid hbws
  clear hB1 hB2 hbw hSp hS hz hbws
  clear hb2 x0 x1 x2 HSGW
  go_upto_region 2 with fail
  have hBs := Box.made W2 77 #[.string S.name, .slice A7 S.params.length c7, .string S.result]
  have hbs : Below W2.heap.size W2 (W2.alloc (.cells #[.string S.name, .slice A7 S.params.length c7, .string S.result] 77)) := by go_grown
  have hzs : (W2.alloc (.cells #[.string S.name, .slice A7 S.params.length c7, .string S.result] 77)).heap.size = W2.heap.size + 1 := by simp
  generalize W2.alloc (.cells #[.string S.name, .slice A7 S.params.length c7, .string S.result] 77) = W3 at hBs hbs hzs ⊢
  have hB1 := HB1.out.later hbs HB1.out.lt
  have hB2 := HB2.out.later hbs HB2.out.lt
  have hbw := below_step HBW.out hbs
  have hsp := HSP.out.up StrR.stays (fun _ h => fresh_lt _ h) hbs
  have hlz : W3.heap.size = W2.heap.size + 1 := hzs
  have hbw2 : w.heap.size + 1 + 1 ≤ W2.heap.size := by have := HBWS.out; omega
  by_cases hz0 : z = 0
  case neg =>
    have he := HBC.out z HZ.out hz0
    subst he
    have HBX := Lib.hid hbw
    clear hbw
    clear hB1 hB2 hBs hbs
    go_wp2_with fail
    go_ret
    exact ⟨rfl, HBX.out⟩
  case pos =>
  subst hz0
  have hSS : sigOne m l k = (S, 0) := Prod.ext HS.out HZ.out
  have hcnt := HSC.out S hSS
  have hE := HBF.out S hSS
  have hL := pars_length hcnt
  have hps := pars_ok (f := f) (strs_ok hsp)
  have hpt := fun j p t h1 h2 => pars_take (f := f) (S := S) (j := j) (p := p) (t := t) h1 h2
  obtain ⟨PS, hPS⟩ : ∃ z, bodyPars f S = z := ⟨_, rfl⟩
  rw [hPS] at hL hps hpt hE
  have his := isOf_any (m := m) (l := l) (own := own) hps 10
  obtain ⟨E, hEE⟩ : ∃ z, isR m l own PS 10 f.body = z := ⟨_, rfl⟩
  rw [hEE] at hE
  have hlz3 := hbw.size
  have hS8 : S.params.length ≤ 8 := by omega
  have hSPc := hsp.cap
  have HB1 := Lib.hid hB1; have HB2 := Lib.hid hB2; have HBW3 := Lib.hid hbw; have HSP3 := Lib.hid hsp; have HBS := Lib.hid hBs; have HPT := Lib.hid hpt; have HIS := Lib.hid his; have HEE := Lib.hid hEE; have HL := Lib.hid hL; have HCNT := Lib.hid hcnt; have HZS := Lib.hid hzs; have HPSO := Lib.hid hps; have HE := Lib.hid hE
  clear hB1 hB2 hbw hsp hBs hpt his hEE hL hcnt hzs hps hE
  clear hbs hSS hPS
  go_wp2_with fail
  go_loopg [11, 12] S.params.length (fun gg s11 s12 wr => ∃ (jj n c : Nat) (A : Option Addr), jj ≤ S.params.length ∧ S.params.length - jj ≤ gg ∧ s12 = .int .i64 jj ∧ s11 = .slice A n c ∧ Aside (n = jj) ∧
    Aside (Owns KnownR 2 74 W3.heap.size wr none_ (.slice A n c) (PS.take jj)) ∧ Aside (Below W3.heap.size W3 wr))
  case atStart => exact ⟨0, 0, 0, none, Nat.zero_le _, by omega, rfl, rfl, aside rfl, aside Owns.nil_, aside (Below.refl _ _)⟩
  case round =>
    obtain ⟨jj, n, c, A, hjj, hg, rfl, rfl, hn, hO, BW⟩ := hrel
    obtain ⟨wo, rfl⟩ : ∃ W, W = wr := ⟨_, rfl⟩
    have hbw := below_step HBW3.out BW.out
    have hB1 := HB1.out.later BW.out HB1.out.lt
    have hBs := HBS.out.later BW.out HBS.out.lt
    by_cases hlt : jj < S.params.length
    · have hltz : (jj : Int) < (S.params.length : Int) := by omega
      have hltp : jj < f.params.length := by have := HCNT.out; omega
      have hltpz : (jj : Int) < (f.params.length : Int) := by omega
      have hat := HP.out.up FieldR.stays old_lt hbw
      obtain ⟨bp, offp, cs, hP1, hbF, hcs, hpr, hpc⟩ := hat.at_ (k := jj) hltp
      have hpx := List.getElem?_eq_getElem hltp
      generalize f.params[jj] = p at hpx hpr
      obtain ⟨d1, d2, d3, d4, rfl, hpn, _⟩ := FieldR.form hpr
      have q0 := hpc 0 _ rfl
      simp only [Nat.add_zero] at q0
      subst hP1
      obtain ⟨bs, offs, cs2, hA1, hbF2, hcs2, ⟨rfl, htn⟩, hsc⟩ := (HSP3.out.up StrR.stays (fun _ h => by have := fresh_lt _ h; omega) BW.out).at_ (k := jj) hlt
      have htx := List.getElem?_eq_getElem hlt
      generalize S.params[jj] = t at htx htn hsc
      have q1 := hsc 0 _ rfl
      simp only [Nat.mul_one, Nat.add_zero] at q1
      subst hA1
      have hW3 : w.heap.size + 1 + 1 ≤ W2.heap.size := by have := hbw2; omega
      have hbpl : bp < W3.heap.size := by have : bp < w.heap.size := hbF; omega
      have hbsl : bs < W3.heap.size := by have h1 := hbF2.2; omega
      have hbtl : bt < W3.heap.size := by omega
      have hlo : W3.heap.size ≤ wo.heap.size := BW.out.size
      have k2 := (hbw.cell (p := ⟨bt, off + k * 12 + 2, none⟩) hq3).trans hc2
      have x2 := hB1.at_ 2 _ rfl
      have y1 := hBs.at_ 1 _ rfl
      have hpt := HPT.out jj p t hpx htx
      have hO2 : Owns KnownR 2 74 W3.heap.size wo none_ (.slice A n c) (PS.take jj) := hO.out
      have hlen : (PS.take jj).length = jj := by rw [List.length_take, HL.out]; omega
      obtain ⟨L, hLd⟩ : ∃ z, PS.take jj = z := ⟨_, rfl⟩
      rw [hLd] at hO2 hlen hpt
      obtain rfl : jj = n := hn.out.symm
      have hdr : Below W3.heap.size wo wo.drew := by go_grown
      have hl1 : w.heap.size < W3.heap.size := by omega
      have hls : W2.heap.size < W3.heap.size := by omega
      have HS := Lib.hid (show ∀ w', Below W3.heap.size wo w' → (w'.cell? ⟨w.heap.size, 2, none⟩ = some (.slice (some ⟨bt, off, none⟩) m.funcs.length e2) ∧ w'.cell? ⟨W2.heap.size, 1, none⟩ = some (.slice (some ⟨bs, offs, none⟩) S.params.length c7) ∧ w'.cell? ⟨bt, off + k * 12 + 2, none⟩ = some (.slice (some ⟨bp, offp, none⟩) f.params.length p1) ∧ w'.cell? ⟨bp, offp + jj * 5, none⟩ = some (.string p.name) ∧ w'.cell? ⟨bs, offs + jj, none⟩ = some (.string t)) from fun w' h => ⟨(h.cell (p := ⟨w.heap.size, 2, none⟩) hl1).trans x2, (h.cell (p := ⟨W2.heap.size, 1, none⟩) hls).trans y1, (h.cell (p := ⟨bt, off + k * 12 + 2, none⟩) hbtl).trans k2, (h.cell (p := ⟨bp, offp + jj * 5, none⟩) hbpl).trans q0, (h.cell (p := ⟨bs, offs + jj, none⟩) hbsl).trans q1⟩)
      have HLEN := Lib.hid hlen
      have HBw := Lib.hid hbw; have HPT := Lib.hid hpt; have HO2 := Lib.hid hO2; have HBk := Lib.hid hdr; have HLo := Lib.hid hlo
      clear hbw hpt hO2 hdr hlo
      clear hpc hsc hcs hcs2 hbF hbF2 hB1 hBs hO hat hpr hlen hn hLd
      go_wp2_with fail
      go_upto_region 8 with fail
      go_region_held3 (fun w' => w'.cell? ⟨w.heap.size, 2, none⟩ = some (.slice (some ⟨bt, off, none⟩) m.funcs.length e2) ∧ w'.cell? ⟨W2.heap.size, 1, none⟩ = some (.slice (some ⟨bs, offs, none⟩) S.params.length c7) ∧ w'.cell? ⟨bt, off + k * 12 + 2, none⟩ = some (.slice (some ⟨bp, offp, none⟩) f.params.length p1) ∧ w'.cell? ⟨bp, offp + jj * 5, none⟩ = some (.string p.name) ∧ w'.cell? ⟨bs, offs + jj, none⟩ = some (.string t))
        (exact HS.out _ (by first | exact HBk.out | exact HBk.out.alloc (Nat.le_trans HLo.out HBk.out.size) _ | exact (HBk.out.alloc (Nat.le_trans HLo.out HBk.out.size) _).drew))
        ((refine step_push KnownR.stays (.agg #[.string ⟨#[]⟩, .string ⟨#[]⟩]) [.string p.name, .string t] ⟨p.name, t⟩ _ _ 28 rfl rfl Tryd.underlying28 (bytes := 32) (by kernel_rfl) (show Owns KnownR 2 74 W3.heap.size _ none_ (.slice A jj c) L from HO2.out.below KnownR.stays (by go_grown)) rfl rfl (by decide) rfl (heap_alloc_new _ _) rfl (show KnownR _ none_ _ _ from ⟨rfl, hpn, htn⟩) (known_cells (d := ⟨p.name, t⟩)) (fun k hk => hk.elim) (by have := HLEN.out; unfold maxLen; omega) (by have := HLEN.out; omega) (by have h1 := BW.out.size; simp; omega) ?_; intro A6 c6 w6 ho6 hg6 _; have hb6 := (show Below W3.heap.size W3 w6 from (BW.out.trans ((by go_grown : Below wo.heap.size wo _).mono BW.out.size)).trans (hg6.below (B := W3.heap.size) (Nat.le_refl _) (by have h1 := BW.out.size; simp; omega))); have hbk := (HBk.out.alloc (Nat.le_trans HLo.out HBk.out.size) (.cells #[.string p.name, .string t] 74)).trans (hg6.below (B := W3.heap.size) (Nat.le_refl _) (by have h1 := BW.out.size; simp; omega)); have HBk := Lib.hid hbk; have HO6 := Lib.hid ho6; have HB6 := Lib.hid hb6; clear ho6 hg6 hb6 hbk))
      all_goals
        go_wp2_with fail
        go_roundg (S.params.length - (jj + 1))
        case measure => omega
        case rel =>
          refine ⟨jj + 1, _, c6, A6, by omega, by omega, by go_num, rfl, aside (by rw [HLEN.out]), aside ?_, aside HB6.out⟩
          rw [HPT.out]
          exact Owns.wider KnownR.stays HO6.out (F' := none_) (fun k hk => hk.elim id id) (fun k hk => hk.elim)
    · have hltz : ¬ (jj : Int) < (S.params.length : Int) := by omega
      obtain rfl : jj = S.params.length := by omega
      have hpl : PS.length = S.params.length := by rw [HL.out, HCNT.out]
      have hO2 : Owns KnownR 2 74 W3.heap.size wo none_ (.slice A n c) PS := by have h := hO.out; rwa [List.take_of_length_le (by omega)] at h
      have hsl := hO2.slice KnownR.stays (by_ := 32) (F' := old wo.heap.size) (fun k hk => hk.elim) (fun k h1 h2 => h2) (by omega) (by omega)
      have his := fun U (hU : Below wo.heap.size wo U) => HIS.out f.body [.slice U1 m.uses.length u1, .slice T1 m.types.length e1, .slice (some ⟨bt, off, none⟩) m.funcs.length e2] (.slice L1 l.length l1) [.slice T3 own.types.length e3, .slice T4 own.funcs.length e4] (.slice A n c) _ (old U.heap.size) U HEXR.out old_lt
        (now_up ModuleR.stays HM.out (hbw.trans (hU.mono hbw.size))) (now_lup ImportR.stays HL0.out (hbw.trans (hU.mono hbw.size))) (now_up FaceR.stays HO.out (hbw.trans (hU.mono hbw.size))) (now_lup KnownR.stays hsl hU) (now_up ExR.stays HX.out (hbw.trans (hU.mono hbw.size)))
      rw [HEE.out] at his
      have hB2 := HB2.out.later BW.out HB2.out.lt
      have hbtl : bt < wo.heap.size := by have := hbw.size; omega
      have k7 := (hbw.cell (p := ⟨bt, off + k * 12 + 7, none⟩) hq3).trans hc7
      have k8 := (hbw.cell (p := ⟨bt, off + k * 12 + 8, none⟩) hq3).trans hc8
      have k9 := (hbw.cell (p := ⟨bt, off + k * 12 + 9, none⟩) hq3).trans hc9
      have k10 := (hbw.cell (p := ⟨bt, off + k * 12 + 10, none⟩) hq3).trans hc10
      have k11 := (hbw.cell (p := ⟨bt, off + k * 12 + 11, none⟩) hq3).trans hc11
      have hdr : Below wo.heap.size wo wo.drew := by go_grown
      have hl1 := hB1.lt
      have hl2 := hB2.lt
      have x0 := hB1.at_ 0 _ rfl
      have x1 := hB1.at_ 1 _ rfl
      have x2 := hB1.at_ 2 _ rfl
      have y0 := hB2.at_ 0 _ rfl
      have y1 := hB2.at_ 1 _ rfl
      have HS := Lib.hid (show ∀ w', Below wo.heap.size wo w' → (w'.cell? ⟨w.heap.size, 0, none⟩ = some (.slice U1 m.uses.length u1) ∧ w'.cell? ⟨w.heap.size, 1, none⟩ = some (.slice T1 m.types.length e1) ∧ w'.cell? ⟨w.heap.size, 2, none⟩ = some (.slice (some ⟨bt, off, none⟩) m.funcs.length e2) ∧ w'.cell? ⟨w.heap.size + 1, 0, none⟩ = some (.slice T3 own.types.length e3) ∧ w'.cell? ⟨w.heap.size + 1, 1, none⟩ = some (.slice T4 own.funcs.length e4) ∧ w'.cell? ⟨bt, off + k * 12 + 7, none⟩ = some (.int .i64 f.body.kind) ∧ w'.cell? ⟨bt, off + k * 12 + 8, none⟩ = some (.int .i64 f.body.n) ∧ w'.cell? ⟨bt, off + k * 12 + 9, none⟩ = some (.string f.body.of_) ∧ w'.cell? ⟨bt, off + k * 12 + 10, none⟩ = some (.string f.body.s) ∧ w'.cell? ⟨bt, off + k * 12 + 11, none⟩ = some (.slice A3 f.body.args.length n3)) from fun w' h => ⟨(h.cell (p := ⟨w.heap.size, 0, none⟩) hl1).trans x0, (h.cell (p := ⟨w.heap.size, 1, none⟩) hl1).trans x1, (h.cell (p := ⟨w.heap.size, 2, none⟩) hl1).trans x2, (h.cell (p := ⟨w.heap.size + 1, 0, none⟩) hl2).trans y0, (h.cell (p := ⟨w.heap.size + 1, 1, none⟩) hl2).trans y1, (h.cell (p := ⟨bt, off + k * 12 + 7, none⟩) hbtl).trans k7, (h.cell (p := ⟨bt, off + k * 12 + 8, none⟩) hbtl).trans k8, (h.cell (p := ⟨bt, off + k * 12 + 9, none⟩) hbtl).trans k9, (h.cell (p := ⟨bt, off + k * 12 + 10, none⟩) hbtl).trans k10, (h.cell (p := ⟨bt, off + k * 12 + 11, none⟩) hbtl).trans k11⟩)
      have hn' : n = S.params.length := hn.out
      have s1 := hBs.at_ 1 _ rfl
      have HBs2 := Lib.hid hBs; have HBW4 := Lib.hid hbw; have HISP := Lib.hid his; have HBk := Lib.hid hdr
      clear hBs hbw his hdr
      clear hB1 hB2 hO2 hsl hpl hn' hn hO HPT
      obtain ⟨R, zr⟩ := E
      go_upto_region 9 with fail
      clear s1
      clear x0 x1 x2 y0 y1 k7 k8 k9 k10 k11 hc2 hc7 hc8 hc9 hc10 hc11
      go_cut [13, 14] (fun s13 s14 wc => s13 = .string R ∧ s14 = .int .i64 zr ∧ Aside (Below wo.heap.size wo wc))
      case first =>
        go_region_held3 (fun w' => w'.cell? ⟨w.heap.size, 0, none⟩ = some (.slice U1 m.uses.length u1) ∧ w'.cell? ⟨w.heap.size, 1, none⟩ = some (.slice T1 m.types.length e1) ∧ w'.cell? ⟨w.heap.size, 2, none⟩ = some (.slice (some ⟨bt, off, none⟩) m.funcs.length e2) ∧ w'.cell? ⟨w.heap.size + 1, 0, none⟩ = some (.slice T3 own.types.length e3) ∧ w'.cell? ⟨w.heap.size + 1, 1, none⟩ = some (.slice T4 own.funcs.length e4) ∧ w'.cell? ⟨bt, off + k * 12 + 7, none⟩ = some (.int .i64 f.body.kind) ∧ w'.cell? ⟨bt, off + k * 12 + 8, none⟩ = some (.int .i64 f.body.n) ∧ w'.cell? ⟨bt, off + k * 12 + 9, none⟩ = some (.string f.body.of_) ∧ w'.cell? ⟨bt, off + k * 12 + 10, none⟩ = some (.string f.body.s) ∧ w'.cell? ⟨bt, off + k * 12 + 11, none⟩ = some (.slice A3 f.body.args.length n3))
          (exact HS.out _ (by first | exact HBk.out | exact HBk.out.alloc HBk.out.size _ | (go_grown; done) | exact (HBk.out.alloc HBk.out.size _).alloc (HBk.out.alloc HBk.out.size _).size _ | exact HBk.out.setCell (Nat.le_refl _) _ | exact (HBk.out.setCell (Nat.le_refl _) _).setCell (Nat.le_refl _) _))
          ((go_at_call 42; (with_reducible refine (HISP.out _ HBk.out).mono ?_); rintro e w7 ⟨rfl, hb7⟩; have hb8 := below_step HBk.out hb7; have HBk := Lib.hid hb8; clear hb7 hb8))
        all_goals
          go_wp2_with fail
          go_meet
          exact ⟨rfl, rfl, aside HBk.out⟩
      case rest =>
      obtain ⟨rfl, rfl, hb6⟩ := hcut
      have hBs := HBs2.out.later hb6.out HBs2.out.lt
      have hbx := below_step HBW4.out hb6.out
      have y2 := hBs.at_ 2 _ rfl
      have HBX := Lib.hid hbx
      clear hbx
      clear hBs hb6
      have hE := HE.out
      by_cases hr0 : zr = 0
      · subst hr0
        cases hq : eqB R S.result with
        | true =>
          have he := hE.trans (bodyEnd_fine rfl hq)
          subst he
          have hq1 : (R.toList == S.result.toList) = true := by rw [← eqB_lst]; exact hq
          have hq2 : (R.toList != S.result.toList) = false := by simp [bne, hq1]
          clear hq hE
          go_wp2_with fail
          go_ret
          exact ⟨rfl, HBX.out⟩
        | false =>
          have he := hE.trans (bodyEnd_not rfl hq)
          subst he
          have hq1 : (R.toList == S.result.toList) = false := by rw [← eqB_lst]; exact hq
          have hq2 : (R.toList != S.result.toList) = true := by simp [bne, hq1]
          clear hq hE
          go_wp2_with fail
          go_ret
          exact ⟨rfl, HBX.out⟩
      · have he := hE.trans (bodyEnd_bad rfl hr0)
        have hrb : (zr == 0) = false := by simp [hr0]
        subst he
        clear hE
        go_wp2_with fail
        go_ret
        exact ⟨rfl, HBX.out⟩

end Go.Proofs.YthedfpcdibhfpaaDoor

/- What is wrong with a function's body: body.One. -/
namespace Go.Proofs.YthedfpcdibhfpaaDoor
open Go.RowKit Go.Shelf

set_option maxRecDepth 100000 in
set_option maxHeartbeats 16000000 in
theorem bodyOne_any (m : Module) (l : List Import) (own : Face) (hm0 : modErr m = 0) (hl0 : importsErr l = 0) (ho0 : faceErr own = 0) (k : Nat) (ds : List Value) (lv : Value) (os : List Value) (mx : Int) (w : World) (hk : k < m.funcs.length)
    (hm : ModuleR w (old w.heap.size) ds m) (hl : SliceOf ImportR 4 72 w (old w.heap.size) lv l) (ho : FaceR w (old w.heap.size) os own) (hM : w.cell? ⟨1, 0, none⟩ = some (.int .i64 mx)) :
    Calls Tryd.prog 12 #[.agg ds.toArray, lv, .agg os.toArray, .int .i64 k] w fun e w' => e = .returned (.int .i64 (bodyR m l own k)) ∧ Below w.heap.size w w' := by
  have hRis := called_rising (m := m) ho0 hl0
  have hsg := fun U (hU : Below w.heap.size w U) => signOne_any m l hm0 hl0 k ds lv U hk (now_up ModuleR.stays hm hU) (now_lup ImportR.stays hl hU)
  obtain ⟨U1, u1, T1, e1, T2, e2, rfl, _, _, hT⟩ := ModuleR.form hm
  obtain ⟨L1, l1, rfl, _⟩ := hl.form
  obtain ⟨T3, e3, T4, e4, rfl⟩ := FaceR.form ho
  have hkz : (k : Int) < (m.funcs.length : Int) := by omega
  have hfx := List.getElem?_eq_getElem hk
  have hff := fun_fine (mod_funcs hm0 _ (List.getElem_mem hk))
  obtain ⟨bt, off, cs, hT1, hbF, hcs, hfr, hcell⟩ := hT.at_ (k := k) hk
  generalize m.funcs[k] = f at hfx hff hfr
  obtain ⟨P1, p1, a1, a2, a3, a4, b1, b2, b3, b4, b5, rfl, hn0, hv0, hP, hR, hX⟩ := FuncR.form hfr
  obtain ⟨A3, n3, hf⟩ := ExR.form hX
  simp only [List.cons.injEq, and_true] at hf
  obtain ⟨rfl, rfl, rfl, rfl, rfl⟩ := hf
  have hc0 := hcell 0 _ rfl
  have hc1 := hcell 1 _ rfl
  have hc2 := hcell 2 _ rfl
  have hc3 := hcell 3 _ rfl
  have hc4 := hcell 4 _ rfl
  have hc5 := hcell 5 _ rfl
  have hc6 := hcell 6 _ rfl
  have hc7 := hcell 7 _ rfl
  have hc8 := hcell 8 _ rfl
  have hc9 := hcell 9 _ rfl
  have hc10 := hcell 10 _ rfl
  have hc11 := hcell 11 _ rfl
  simp only [Nat.add_zero] at hc0
  subst hT1
  have hTc := hT.cap
  have hPc := hP.cap
  have hq3 : bt < w.heap.size := hbF
  have hbc := fun (z : Int) h h0 => body_code (own := own) (z := z) hfx (l := l) h h0
  have hbf := fun (S : Sig) h => body_fine (own := own) (S := S) hfx (l := l) h
  have hsc := fun (S : Sig) h => sig_count (S := S) hfx (l := l) h
  obtain ⟨Z, hZ⟩ : ∃ z, bodyR m l own k = z := ⟨_, rfl⟩
  rw [hZ] at hbc hbf ⊢
  have hexr := hff.2.2.2.2
  have hp8 := hff.2.1
  have HSG := Lib.hid hsg; have HM := Lib.hid hm; have HL0 := Lib.hid hl; have HO := Lib.hid ho; have HT := Lib.hid hT; have HP := Lib.hid hP; have HX := Lib.hid hX; have HBC := Lib.hid hbc; have HBF := Lib.hid hbf; have HSC := Lib.hid hsc; have HEXR := Lib.hid hexr
  clear hsg hm hl ho hT hP hX hbc hbf hsc hexr
  have HM0 := Lib.hid hM; have HRIS := Lib.hid hRis
  clear hM hRis hZ hfr hcell hcs hm0 hl0 hfx hff hbF hR hc0 hc1 hc3 hc4 hc5 hc6
  go_enter Tryd.func12, Tryd.ntmps12
  go_upto_region 1 with fail
  have hBb1 := ((Box.made w 26 #[.slice U1 m.uses.length u1, .slice T1 m.types.length e1, .slice (some ⟨bt, off, none⟩) m.funcs.length e2]).alloc (.cells #[.slice T3 own.types.length e3, .slice T4 own.funcs.length e4] 31))
  have hBb2 := (Box.made (w.alloc (.cells #[.slice U1 m.uses.length u1, .slice T1 m.types.length e1, .slice (some ⟨bt, off, none⟩) m.funcs.length e2] 26)) 31 #[.slice T3 own.types.length e3, .slice T4 own.funcs.length e4])
  rw [show (w.alloc (.cells #[.slice U1 m.uses.length u1, .slice T1 m.types.length e1, .slice (some ⟨bt, off, none⟩) m.funcs.length e2] 26)).heap.size = w.heap.size + 1 by simp only [World.size_alloc]] at hBb2
  have hbb : Below w.heap.size w ((w.alloc (.cells #[.slice U1 m.uses.length u1, .slice T1 m.types.length e1, .slice (some ⟨bt, off, none⟩) m.funcs.length e2] 26)).alloc (.cells #[.slice T3 own.types.length e3, .slice T4 own.funcs.length e4] 31)) := by go_grown
  have hzb : ((w.alloc (.cells #[.slice U1 m.uses.length u1, .slice T1 m.types.length e1, .slice (some ⟨bt, off, none⟩) m.funcs.length e2] 26)).alloc (.cells #[.slice T3 own.types.length e3, .slice T4 own.funcs.length e4] 31)).heap.size = w.heap.size + 1 + 1 := by simp only [World.size_alloc]
  generalize (w.alloc (.cells #[.slice U1 m.uses.length u1, .slice T1 m.types.length e1, .slice (some ⟨bt, off, none⟩) m.funcs.length e2] 26)).alloc (.cells #[.slice T3 own.types.length e3, .slice T4 own.funcs.length e4] 31) = W1 at hBb1 hBb2 hbb hzb ⊢
  have x0 := hBb1.at_ 0 _ rfl
  have x1 := hBb1.at_ 1 _ rfl
  have x2 := hBb1.at_ 2 _ rfl
  have hsg := HSG.out W1 hbb
  have HB1 := Lib.hid hBb1; have HB2 := Lib.hid hBb2; have HB := Lib.hid hbb; have HSGW := Lib.hid hsg; have HZB := Lib.hid hzb
  clear hBb1 hBb2 hbb hsg hzb
  clear HSG
  go_wp2_with fail
  refine HSGW.out.mono ?_
  rintro e W2 ⟨ds, rfl, hb2, hSr⟩
  obtain ⟨S, hS⟩ : ∃ S, (sigOne m l k).1 = S := ⟨_, rfl⟩
  obtain ⟨z, hz⟩ : ∃ z, (sigOne m l k).2 = z := ⟨_, rfl⟩
  rw [hS] at hSr
  rw [hz]
  obtain ⟨pv, rfl, hSn, hSres, hSp⟩ := hSr
  obtain ⟨A7, c7, rfl, _, _, hSl, _⟩ := hSp.form
  have hB1 := HB1.out.later hb2 HB1.out.lt
  have hB2 := HB2.out.later hb2 HB2.out.lt
  have hbw := below_step HB.out hb2
  have hbws : w.heap.size + 1 + 1 ≤ W2.heap.size := by have h1 := hb2.size; have := HZB.out; omega
  have HB1 := Lib.hid hB1; have HB2 := Lib.hid hB2; have HBW := Lib.hid hbw; have HSP := Lib.hid hSp; have HS := Lib.hid hS; have HZ := Lib.hid hz; have HBWS := Lib.hid hbws
  clear hB1 hB2 hbw hSp hS hz hbws
  clear hb2 x0 x1 x2 HSGW
  go_upto_region 2 with fail
  have hBs := Box.made W2 77 #[.string S.name, .slice A7 S.params.length c7, .string S.result]
  have hbs : Below W2.heap.size W2 (W2.alloc (.cells #[.string S.name, .slice A7 S.params.length c7, .string S.result] 77)) := by go_grown
  have hzs : (W2.alloc (.cells #[.string S.name, .slice A7 S.params.length c7, .string S.result] 77)).heap.size = W2.heap.size + 1 := by simp
  generalize W2.alloc (.cells #[.string S.name, .slice A7 S.params.length c7, .string S.result] 77) = W3 at hBs hbs hzs ⊢
  have hB1 := HB1.out.later hbs HB1.out.lt
  have hB2 := HB2.out.later hbs HB2.out.lt
  have hbw := below_step HBW.out hbs
  have hsp := HSP.out.up StrR.stays (fun _ h => fresh_lt _ h) hbs
  have hlz : W2.heap.size < W3.heap.size := by omega
  have hbw2 : w.heap.size + 1 + 1 ≤ W2.heap.size := by have := HBWS.out; omega
  by_cases hz0 : z = 0
  case neg =>
    have he := HBC.out z HZ.out hz0
    subst he
    have HBX := Lib.hid hbw
    clear hbw
    clear hB1 hB2 hBs hbs
    go_wp2_with fail
    go_ret
    exact ⟨rfl, HBX.out⟩
  case pos =>
  subst hz0
  have hSS : sigOne m l k = (S, 0) := Prod.ext HS.out HZ.out
  have hcnt := HSC.out S hSS
  have hE := HBF.out S hSS
  have hL := pars_length hcnt
  have hps := pars_ok (f := f) (strs_ok hsp)
  have hpt := fun j p t h1 h2 => pars_take (f := f) (S := S) (j := j) (p := p) (t := t) h1 h2
  obtain ⟨PS, hPS⟩ : ∃ z, bodyPars f S = z := ⟨_, rfl⟩
  rw [hPS] at hL hps hpt hE
  have his := of_any (m := m) (l := l) (own := own) (mx := mx) hps HRIS.out 10
  obtain ⟨E, hEE⟩ : ∃ z, isR m l own PS 10 f.body = z := ⟨_, rfl⟩
  rw [hEE] at hE
  have hlz3 := hbw.size
  have hS8 : S.params.length ≤ 8 := by omega
  have hSPc := hsp.cap
  have hlt1 := hB1.lt
  have hlt2 := hB2.lt
  have hlts := hBs.lt
  have x0 := hB1.at_ 0 _ rfl
  have x1 := hB1.at_ 1 _ rfl
  have x2 := hB1.at_ 2 _ rfl
  have y0 := hB2.at_ 0 _ rfl
  have y1 := hB2.at_ 1 _ rfl
  have hPcap := hPc
  have HPT := Lib.hid hpt; have HIS := Lib.hid his; have HEE := Lib.hid hEE; have HL := Lib.hid hL; have HCNT := Lib.hid hcnt; have HZS := Lib.hid hzs; have HPSO := Lib.hid hps; have HE := Lib.hid hE; have HBs := Lib.hid hBs; have HB1 := Lib.hid hB1; have HB2 := Lib.hid hB2; have HBW3 := Lib.hid hbw; have HSP3 := Lib.hid hsp
  clear hpt his hEE hL hcnt hzs hps hE hBs hB1 hB2 hbw hsp
  clear hbs hSS hPS
  go_upto_region 5 with fail
  have hBc := Box.made W3 82 #[.slice U1 m.uses.length u1, .slice T1 m.types.length e1, .slice (some ⟨bt, off, none⟩) m.funcs.length e2, .slice L1 l.length l1, .slice T3 own.types.length e3, .slice T4 own.funcs.length e4, .slice none 0 0]
  have hbc : Below W3.heap.size W3 (W3.alloc (.cells #[.slice U1 m.uses.length u1, .slice T1 m.types.length e1, .slice (some ⟨bt, off, none⟩) m.funcs.length e2, .slice L1 l.length l1, .slice T3 own.types.length e3, .slice T4 own.funcs.length e4, .slice none 0 0] 82)) := by go_grown
  have hzc : (W3.alloc (.cells #[.slice U1 m.uses.length u1, .slice T1 m.types.length e1, .slice (some ⟨bt, off, none⟩) m.funcs.length e2, .slice L1 l.length l1, .slice T3 own.types.length e3, .slice T4 own.funcs.length e4, .slice none 0 0] 82)).heap.size = W3.heap.size + 1 := by simp
  generalize W3.alloc (.cells #[.slice U1 m.uses.length u1, .slice T1 m.types.length e1, .slice (some ⟨bt, off, none⟩) m.funcs.length e2, .slice L1 l.length l1, .slice T3 own.types.length e3, .slice T4 own.funcs.length e4, .slice none 0 0] 82) = W4 at hBc hbc hzc ⊢
  have hB1 := HB1.out.later hbc hlt1
  have hBs := HBs.out.later hbc hlts
  have hb4 := below_step HBW3.out hbc
  clear x0 x1 x2 y0 y1
  have x2 := hB1.at_ 2 _ rfl
  have k2 := (hb4.cell (p := ⟨bt, off + k * 12 + 2, none⟩) hq3).trans hc2
  have hscp : (⟨W3.heap.size, 6, none⟩ : Addr).block = W3.heap.size := rfl
  have HBC := Lib.hid hBc; have HBS4 := Lib.hid hBs; have HB14 := Lib.hid hB1; have HBW4 := Lib.hid hb4; have HBC4 := Lib.hid hbc; have HZC := Lib.hid hzc
  clear hBc hBs hB1 hb4 hbc hzc
  go_wp2_with fail
  have hw34 : W3.heap.size < W4.heap.size := HBC.out.lt
  have hw34' : W3.heap.size ≤ W4.heap.size := Nat.le_of_lt hw34
  have HW34 := Lib.hid hw34; have HW34' := Lib.hid hw34'
  clear hw34 hw34'
  clear x2 k2
  go_loopg [12, 13, 37] f.params.length (fun gg s12 s13 s37 wr => ∃ (jj n c : Nat) (A : Option Addr), jj ≤ f.params.length ∧ f.params.length - jj ≤ gg ∧ s37 = .int .i64 jj ∧ Aside (n = jj) ∧
    Aside (Box wr W3.heap.size 82 #[.slice U1 m.uses.length u1, .slice T1 m.types.length e1, .slice (some ⟨bt, off, none⟩) m.funcs.length e2, .slice L1 l.length l1, .slice T3 own.types.length e3, .slice T4 own.funcs.length e4, .slice A n c]) ∧
    Aside (Owns KnownR 2 74 W4.heap.size wr none_ (.slice A n c) (PS.take jj)) ∧ Aside (Below W3.heap.size W3 wr))
  case atStart => exact ⟨0, 0, 0, none, Nat.zero_le _, by omega, rfl, aside rfl, aside HBC.out, aside Owns.nil_, aside HBC4.out⟩
  case round =>
    obtain ⟨jj, n, c, A, hjj, hg, rfl, hn, hBx, hO, BW⟩ := hrel
    obtain ⟨wo, rfl⟩ : ∃ W, W = wr := ⟨_, rfl⟩
    have hbw := below_step HBW3.out BW.out
    have hB1 := HB1.out.later BW.out HB1.out.lt
    have hBs := HBs.out.later BW.out HBs.out.lt
    by_cases hlt : jj < f.params.length
    · have hltz : (jj : Int) < (f.params.length : Int) := by omega
      have hlts : jj < S.params.length := by have := HCNT.out; omega
      have hltsz : (jj : Int) < (S.params.length : Int) := by omega
      have hat := HP.out.up FieldR.stays old_lt hbw
      obtain ⟨bp, offp, cs, hP1, hbF, hcs, hpr, hpc⟩ := hat.at_ (k := jj) hlt
      have hpx := List.getElem?_eq_getElem hlt
      generalize f.params[jj] = p at hpx hpr
      obtain ⟨d1, d2, d3, d4, rfl, hpn, hpt⟩ := FieldR.form hpr
      obtain ⟨A5, n5, hf⟩ := TyR.form hpt
      simp only [List.cons.injEq, and_true] at hf
      obtain ⟨rfl, rfl, rfl, rfl⟩ := hf
      have q0 := hpc 0 _ rfl
      have q1 := hpc 1 _ rfl
      have q2 := hpc 2 _ rfl
      have q3 := hpc 3 _ rfl
      have q4 := hpc 4 _ rfl
      simp only [Nat.add_zero] at q0
      subst hP1
      obtain ⟨bs, offs, cs2, hA1, hbF2, hcs2, ⟨rfl, htn⟩, hsc⟩ := (HSP3.out.up StrR.stays (fun _ h => by have := fresh_lt _ h; omega) BW.out).at_ (k := jj) hlts
      have htx := List.getElem?_eq_getElem hlts
      generalize S.params[jj] = t at htx htn hsc
      have r1 := hsc 0 _ rfl
      simp only [Nat.mul_one, Nat.add_zero] at r1
      subst hA1
      have hpt := HPT.out jj p t hpx htx
      have hO2 : Owns KnownR 2 74 W4.heap.size wo none_ (.slice A n c) (PS.take jj) := hO.out
      have hlen : (PS.take jj).length = jj := by rw [List.length_take, HL.out]; omega
      obtain ⟨L, hLd⟩ : ∃ z, PS.take jj = z := ⟨_, rfl⟩
      rw [hLd] at hO2 hlen hpt
      obtain rfl : jj = n := hn.out.symm
      have hbpl : bp < wo.heap.size := by have : bp < w.heap.size := hbF; have := hbw.size; omega
      have hbsl : bs < wo.heap.size := by have h1 := hbF2.2; have := BW.out.size; omega
      go_upto_region 8 with fail
      have hBp := Box.made wo 92 #[.string p.name, .int .i64 p.is_.kind, .string p.is_.of_, .string p.is_.name, .slice A5 p.is_.args.length n5]
      have hbp : Below wo.heap.size wo (wo.alloc (.cells #[.string p.name, .int .i64 p.is_.kind, .string p.is_.of_, .string p.is_.name, .slice A5 p.is_.args.length n5] 92)) := by go_grown
      have hzp : (wo.alloc (.cells #[.string p.name, .int .i64 p.is_.kind, .string p.is_.of_, .string p.is_.name, .slice A5 p.is_.args.length n5] 92)).heap.size = wo.heap.size + 1 := by simp
      generalize wo.alloc (.cells #[.string p.name, .int .i64 p.is_.kind, .string p.is_.of_, .string p.is_.name, .slice A5 p.is_.args.length n5] 92) = W5 at hBp hbp hzp ⊢
      have hBs5 := hBs.later hbp hBs.lt
      have hBx5 := hBx.out.later hbp hBx.out.lt
      have hb5 := BW.out.trans (hbp.mono BW.out.size)
      have hO5 := hO2.below KnownR.stays hbp
      have r15 := (hbp.cell (p := ⟨bs, offs + jj, none⟩) hbsl).trans r1
      clear q0 q1 q2 q3 q4 r1
      have q0 := hBp.at_ 0 _ rfl
      have y1 := hBs5.at_ 1 _ rfl
      have x6 := hBx5.at_ 6 _ rfl
      have g6 := hBx5.free 6
      have hxl := hBx5.lt
      have h45 : W4.heap.size ≤ W5.heap.size := by have := hb5.size; have h1 := BW.out.size; have := HZC.out; have := hBx.out.lt; rw [hzp]; omega
      have HLEN := Lib.hid hlen
      clear hzp
      have x6a := (hBx5.alloc (.cells #[.string p.name, .string t] 74)).at_ 6 _ rfl
      have y1a := (hBs5.alloc (.cells #[.string p.name, .string t] 74)).at_ 1 _ rfl
      have HPT2 := Lib.hid hpt; have HO5 := Lib.hid hO5; have HB5 := Lib.hid hb5; have HBX5 := Lib.hid hBx5
      clear hpt hO5 hb5 hBx5
      clear hpc hsc hcs hcs2 hbF hbF2 hB1 hBs hO hat hpr hlen hn hLd hO2 hBx hBp hbp hBs5 BW hbw
      go_region_law
        ((refine step_push KnownR.stays (.agg #[.string ⟨#[]⟩, .string ⟨#[]⟩]) [.string p.name, .string t] ⟨p.name, t⟩ _ _ 28 rfl rfl Tryd.underlying28 (bytes := 32) (by kernel_rfl) (show Owns KnownR 2 74 W4.heap.size _ none_ _ L from HO5.out.alloc KnownR.stays _) rfl rfl (by decide) rfl (heap_alloc_new _ _) rfl (show KnownR _ none_ _ _ from ⟨rfl, hpn, htn⟩) (known_cells (d := ⟨p.name, t⟩)) (fun k hk => hk.elim) (by have := HLEN.out; unfold maxLen; omega) (by have := HLEN.out; omega) (by have := h45; simp; omega) ?_); intro A6 c6 w6 ho6 hg6 _; have hX6 := hg6.box (Box.later (B := W5.heap.size) HBX5.out (by go_grown) hxl) HW34.out; have hb6 := HB5.out.trans (hg6.below (B := W3.heap.size) HW34'.out (by simp; omega) |> fun h => (show Below W3.heap.size W5 _ from by go_grown).trans h); clear x6 g6; have x6 := hX6.at_ 6 _ rfl; have g6 := hX6.free 6; have HX6 := Lib.hid hX6; have HB6 := Lib.hid hb6; have HO6 := Lib.hid ho6; clear hX6 hb6 ho6 hg6)
      all_goals
        (try go_wp2_with fail)
        go_roundg (f.params.length - (jj + 1))
        case measure => omega
        case rel =>
          refine ⟨jj + 1, L.length + 1, c6, A6, by omega, by omega, by go_num, aside (by rw [HLEN.out]), aside ?_, aside ?_, aside (HB6.out.setCell (p := ⟨W3.heap.size, 6, none⟩) (Nat.le_refl _) _)⟩
          · have h := HX6.out.put 6 (.slice A6 (L.length + 1) c6)
            simpa using h
          · rw [HPT2.out]
            exact (Owns.wider KnownR.stays HO6.out (F' := none_) (fun k hk => hk.elim id id) (fun k hk => hk.elim)).set KnownR.stays HW34.out (fun k hk => hk.elim) _
    · have hltz : ¬ (jj : Int) < (f.params.length : Int) := by omega
      obtain rfl : jj = f.params.length := by omega
      have hpl : PS.length = f.params.length := HL.out
      have hO2 : Owns KnownR 2 74 W4.heap.size wo none_ (.slice A n c) PS := by have h := hO.out; rwa [List.take_of_length_le (by omega)] at h
      have hsl := hO2.slice KnownR.stays (by_ := 32) (F' := old wo.heap.size) (fun k hk => hk.elim) (fun k h1 h2 => h2) (by omega) (by omega)
      have hn' : n = PS.length := by rw [hn.out, hpl]
      subst hn'
      have hscp : ScopeR wo W3.heap.size (old wo.heap.size) m l own PS U1 u1 T1 e1 (some ⟨bt, off, none⟩) e2 L1 l1 T3 e3 T4 e4 A c := ⟨hBx.out, now_up ModuleR.stays HM.out hbw, now_lup ImportR.stays HL0.out hbw, now_up FaceR.stays HO.out hbw, hsl, old_lt⟩
      have his := HIS.out f.body W3.heap.size _ (old wo.heap.size) wo _ _ _ _ _ _ _ _ _ _ _ _ _ _ HEXR.out hscp (now_up ExR.stays HX.out hbw) ((hbw.cell (World.block_lt_of_cell? w _ HM0.out)).trans HM0.out)
      rw [HEE.out] at his
      have k2 := (hbw.cell (p := ⟨bt, off + k * 12 + 2, none⟩) hq3).trans hc2
      have k7 := (hbw.cell (p := ⟨bt, off + k * 12 + 7, none⟩) hq3).trans hc7
      have k8 := (hbw.cell (p := ⟨bt, off + k * 12 + 8, none⟩) hq3).trans hc8
      have k9 := (hbw.cell (p := ⟨bt, off + k * 12 + 9, none⟩) hq3).trans hc9
      have k10 := (hbw.cell (p := ⟨bt, off + k * 12 + 10, none⟩) hq3).trans hc10
      have k11 := (hbw.cell (p := ⟨bt, off + k * 12 + 11, none⟩) hq3).trans hc11
      have x2 := hB1.at_ 2 _ rfl
      have HBs2 := Lib.hid hBs; have HBW4' := Lib.hid hbw; have HISP := Lib.hid his
      clear hBs hbw his
      clear hB1 hO2 hsl hpl hn hO hBx hscp hc2 hc7 hc8 hc9 hc10 hc11
      obtain ⟨R, zr⟩ := E
      go_wp2_with fail
      refine HISP.out.mono ?_
      rintro e W6 ⟨rfl, hb6⟩
      have hBs := HBs2.out.later hb6 HBs2.out.lt
      have hbx := below_step HBW4'.out hb6
      have y2 := hBs.at_ 2 _ rfl
      have HBX := Lib.hid hbx
      clear hbx
      clear hBs hb6 k2 k7 k8 k9 k10 k11 x2
      have hE := HE.out
      by_cases hr0 : zr = 0
      · subst hr0
        cases hq : eqB R S.result with
        | true =>
          have he := hE.trans (bodyEnd_fine rfl hq)
          subst he
          have hq1 : (R.toList == S.result.toList) = true := by rw [← eqB_lst]; exact hq
          have hq2 : (R.toList != S.result.toList) = false := by simp [bne, hq1]
          clear hq hE
          go_wp2_with fail
          go_ret
          exact ⟨rfl, HBX.out⟩
        | false =>
          have he := hE.trans (bodyEnd_not rfl hq)
          subst he
          have hq1 : (R.toList == S.result.toList) = false := by rw [← eqB_lst]; exact hq
          have hq2 : (R.toList != S.result.toList) = true := by simp [bne, hq1]
          clear hq hE
          go_wp2_with fail
          go_ret
          exact ⟨rfl, HBX.out⟩
      · have he := hE.trans (bodyEnd_bad rfl hr0)
        have hrb : (zr == 0) = false := by simp [hr0]
        subst he
        clear hE
        go_wp2_with fail
        go_ret
        exact ⟨rfl, HBX.out⟩

end Go.Proofs.YthedfpcdibhfpaaDoor

/- The law BodyOnes: its walk. -/
namespace Go.Proofs.YthedfpcdibhfpaaDoor
open Go.ChangeShapes Go.WideShapes Go.ChangeAt Go.RowKit

set_option maxRecDepth 100000 in
set_option maxHeartbeats 8000000 in
theorem bodyOnes_calls (cs : List Value) (m : Module) (v : Value) (l : List Import) (cf : List Value) (own : Face) (at_ : Int) (mx : Int) (W : World) (hm : ModuleR W (old W.heap.size) cs m) (hl : SliceOf ImportR 4 72 W (old W.heap.size) v l) (ho : FaceR W (old W.heap.size) cf own) (_hat : I64 at_)
    (hM : W.cell? ⟨1, 0, none⟩ = some (.int .i64 mx)) :
    Calls Tryd.prog 3 #[.agg cs.toArray, v, .agg cf.toArray, .int .i64 at_] W fun e w' => e = .returned (.bool true) ∧ Below W.heap.size W w' := by
  have hmy := fun U (hU : Below W.heap.size W U) => may_any m l cs v (old U.heap.size) (old U.heap.size) U old_lt old_lt (now_up ModuleR.stays hm hU) (now_lup ImportR.stays hl hU)
  have hff := fun U (hU : Below W.heap.size W U) => faceFault_any own cf (old U.heap.size) U old_lt (now_up FaceR.stays ho hU)
  obtain ⟨U1, u1, T1, e1, T2, e2, rfl, _⟩ := ModuleR.form hm
  obtain ⟨L1, l1, rfl, _⟩ := hl.form
  obtain ⟨T3, e3, T4, e4, rfl⟩ := FaceR.form ho
  obtain ⟨z, hz⟩ : ∃ z, mayB m l = z := ⟨_, rfl⟩
  rw [hz] at hmy
  obtain ⟨zf, hzf⟩ : ∃ z, faceErr own = z := ⟨_, rfl⟩
  rw [hzf] at hff
  have HMY := Lib.hid hmy; have HZ := Lib.hid hz; have HM := Lib.hid hm; have HL := Lib.hid hl; have HO := Lib.hid ho; have HFF := Lib.hid hff; have HZF := Lib.hid hzf; have HMX := Lib.hid hM
  clear hmy hz hm hl ho hff hzf hM
  go_enter Tryd.func3, Tryd.ntmps3
  go_upto_region 1 with fail
  have hBm1 := ((Box.made W 26 #[.slice U1 m.uses.length u1, .slice T1 m.types.length e1, .slice T2 m.funcs.length e2]).alloc (.cells #[.slice T3 own.types.length e3, .slice T4 own.funcs.length e4] 31))
  have hBm2 := (Box.made (W.alloc (.cells #[.slice U1 m.uses.length u1, .slice T1 m.types.length e1, .slice T2 m.funcs.length e2] 26)) 31 #[.slice T3 own.types.length e3, .slice T4 own.funcs.length e4])
  rw [show (W.alloc (.cells #[.slice U1 m.uses.length u1, .slice T1 m.types.length e1, .slice T2 m.funcs.length e2] 26)).heap.size = W.heap.size + 1 by simp only [World.size_alloc]] at hBm2
  have hbm : Below W.heap.size W ((W.alloc (.cells #[.slice U1 m.uses.length u1, .slice T1 m.types.length e1, .slice T2 m.funcs.length e2] 26)).alloc (.cells #[.slice T3 own.types.length e3, .slice T4 own.funcs.length e4] 31)) := by go_grown
  have hzm : ((W.alloc (.cells #[.slice U1 m.uses.length u1, .slice T1 m.types.length e1, .slice T2 m.funcs.length e2] 26)).alloc (.cells #[.slice T3 own.types.length e3, .slice T4 own.funcs.length e4] 31)).heap.size = W.heap.size + 1 + 1 := by simp only [World.size_alloc]
  generalize (W.alloc (.cells #[.slice U1 m.uses.length u1, .slice T1 m.types.length e1, .slice T2 m.funcs.length e2] 26)).alloc (.cells #[.slice T3 own.types.length e3, .slice T4 own.funcs.length e4] 31) = W1 at hBm1 hBm2 hbm hzm ⊢
  have m0 := hBm1.at_ 0 _ rfl
  have m1 := hBm1.at_ 1 _ rfl
  have m2 := hBm1.at_ 2 _ rfl
  have f0 := hBm2.at_ 0 _ rfl
  have f1 := hBm2.at_ 1 _ rfl
  have hq1 := hBm1.lt
  have hq2 := hBm2.lt
  have HB := Lib.hid hbm; have HBm1 := Lib.hid hBm1; have HBm2 := Lib.hid hBm2
  clear hbm hBm1 hBm2
  clear hzm
  go_wp2_with fail
  refine (HMY.out _ HB.out).mono ?_
  rintro e W2 ⟨rfl, hb2⟩
  have hB1 := HBm1.out.later hb2 hq1
  have hB2 := HBm2.out.later hb2 hq2
  have hbw := below_step HB.out hb2
  clear m0 m1 m2 f0 f1 hq1 hq2
  have f0 := hB2.at_ 0 _ rfl
  have f1 := hB2.at_ 1 _ rfl
  have HBW := Lib.hid hbw; have HB1 := Lib.hid hB1; have HB2 := Lib.hid hB2
  clear hbw hB1 hB2
  clear hb2
  cases z with
  | false =>
    go_wp2_with fail
    go_ret
    exact ⟨rfl, HBW.out⟩
  | true =>
  have hff := HFF.out _ HBW.out
  have HFW := Lib.hid hff
  clear hff
  clear HFF
  go_wp2_with fail
  refine HFW.out.mono ?_
  rintro e W3 ⟨rfl, hb3⟩
  have hB1 := HB1.out.later hb3 HB1.out.lt
  have hB2 := HB2.out.later hb3 HB2.out.lt
  have hbw := below_step HBW.out hb3
  clear f0 f1
  have m0 := hB1.at_ 0 _ rfl
  have m1 := hB1.at_ 1 _ rfl
  have m2 := hB1.at_ 2 _ rfl
  have f0 := hB2.at_ 0 _ rfl
  have f1 := hB2.at_ 1 _ rfl
  have HBW3 := Lib.hid hbw; have HB13 := Lib.hid hB1; have HB23 := Lib.hid hB2
  clear hbw hB1 hB2
  clear hb3
  by_cases hz0 : zf = 0
  case neg =>
    have hzb : (zf == 0) = false := by simp [hz0]
    have hzn : (zf != 0) = true := by simp [hz0]
    go_wp2_with fail
    go_ret
    exact ⟨rfl, HBW3.out⟩
  case pos =>
  subst hz0
  by_cases ha : at_ < 0
  · have ha' : decide (at_ < 0) = true := decide_eq_true ha
    go_wp2_with fail
    go_ret
    exact ⟨rfl, HBW3.out⟩
  by_cases hb : (m.funcs.length : Int) ≤ at_
  · go_wp2_with fail
    go_ret
    exact ⟨rfl, HBW3.out⟩
  obtain ⟨k, rfl⟩ : ∃ k : Nat, at_ = k := ⟨at_.toNat, by omega⟩
  have hk : k < m.funcs.length := by omega
  have hkz : (k : Int) < (m.funcs.length : Int) := by omega
  obtain ⟨hm0, hl0⟩ := may_both HZ.out
  have hup := fun U (hU : Below W3.heap.size W3 U) => below_step HBW3.out hU
  have hca := fun U (hU : Below W3.heap.size W3 U) => bodyOne_any m l own hm0 hl0 HZF.out k _ _ _ mx U hk (now_up ModuleR.stays HM.out (hup U hU)) (now_lup ImportR.stays HL.out (hup U hU)) (now_up FaceR.stays HO.out (hup U hU)) (((hup U hU).cell (World.block_lt_of_cell? W _ HMX.out)).trans HMX.out)
  have hda := fun U (hU : Below W3.heap.size W3 U) => bodyOf_any m l own hm0 hl0 k _ _ _ U hk (now_up ModuleR.stays HM.out (hup U hU)) (now_lup ImportR.stays HL.out (hup U hU)) (now_up FaceR.stays HO.out (hup U hU))
  generalize bodyR m l own k = r at hca hda
  have HCA := Lib.hid hca; have HDA := Lib.hid hda
  clear hca hda
  clear hm0 hl0 hup
  go_wp2_with fail
  refine (HCA.out _ (Below.refl _ _)).mono ?_
  rintro e W4 ⟨rfl, hb4⟩
  have hB1 := HB13.out.later hb4 HB13.out.lt
  have hB2 := HB23.out.later hb4 HB23.out.lt
  clear m0 m1 m2 f0 f1
  have m0 := hB1.at_ 0 _ rfl
  have m1 := hB1.at_ 1 _ rfl
  have m2 := hB1.at_ 2 _ rfl
  have f0 := hB2.at_ 0 _ rfl
  have f1 := hB2.at_ 1 _ rfl
  have HB4 := Lib.hid hb4
  clear hb4
  clear hB1 hB2
  go_wp2_with fail
  refine (HDA.out _ HB4.out).mono ?_
  rintro e W5 ⟨rfl, hb5⟩
  go_wp2_with fail
  go_ret
  exact ⟨ret_bool (by simp), below_step HBW3.out (below_step HB4.out hb5)⟩

end Go.Proofs.YthedfpcdibhfpaaDoor
