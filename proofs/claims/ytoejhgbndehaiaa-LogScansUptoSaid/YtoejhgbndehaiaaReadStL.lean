/- The reader's list of texts. -/
import Derived.Test.YtoejhgbndehaiaaReadK
namespace Go.Proofs.Ytoejhgbndehaiaa
open Go.RowKit Go.Shelf

set_option maxRecDepth 100000 in
set_option maxHeartbeats 4000000 in
theorem listStr_any (b : Nat) (s : ByteArray) (e : Int) (w : World) (hs : okS s) (hei : I64 e) (hB : Eye w b s e) :
    Calls Try.prog 104 #[.pointer (some ⟨b, 0, none⟩), .func (.func 56) #[.pointer (some ⟨b, 0, none⟩)] #[]] w fun en w' =>
      ∃ (A : Option Addr) (n c : Nat) (xs : List ByteArray), en = .returned (.slice A n c) ∧ SliceOf StrR 1 16 w' (fresh w.heap.size w'.heap.size) (.slice A n c) xs ∧ xs.length ≤ 255 ∧ ReadTo b (rdList rdStr) s e xs w w' := by
  have hcn := count_any b s e w hs hei hB
  have hbl := hB.lt
  have HCN := Lib.hid hcn
  clear hcn
  clear hB
  go_enter Try.func104, Try.ntmps104
  go_wp2_with fail
  refine HCN.out.mono ?_
  rintro en w1 ⟨n, hn, rfl, s1, e1, hB1, hg1, hs1, hei1, hR1⟩
  have HB1 := Lib.hid hB1; have HG1 := Lib.hid hg1; have HI1 := Lib.hid hs1; have HJ1 := Lib.hid hei1; have HR1 := Lib.hid hR1
  clear hB1 hg1 hs1 hei1 hR1
  clear HCN
  go_wp2_with fail
  go_loopg [5, 6] n (fun gg s5 s6 wr => ∃ (ii : Nat) (A : Option Addr) (k c : Nat) (xs : List ByteArray) (F : Foot) (s2 : ByteArray) (e2 : Int), ii ≤ n ∧ n - ii ≤ gg ∧ s5 = .slice A k c ∧ s6 = .int .i64 ii ∧ Aside (k = ii ∧ xs.length = ii ∧ ∀ k, F k → w.heap.size ≤ k) ∧
    Aside (Owns StrR 1 9 w.heap.size wr F (.slice A k c) xs) ∧ Aside (Eye wr b s2 e2) ∧ Aside (Grew b w wr (some b) ∧ w1.heap.size ≤ wr.heap.size) ∧ Aside (okS s2 ∧ I64 e2) ∧ Aside (Reads (rdMany rdStr ii) s1.data.toList e1 xs s2.data.toList e2))
  case atStart => exact ⟨0, none, 0, 0, [], none_, s1, e1, Nat.zero_le _, by omega, rfl, rfl, aside ⟨rfl, rfl, fun _ h => h.elim⟩, aside Owns.nil_, aside HB1.out, aside ⟨HG1.out, Nat.le_refl _⟩, aside ⟨HI1.out, HJ1.out⟩, aside Reads.none_⟩
  case round =>
    obtain ⟨ii, A, k, c, xs, F, s2, e2, hii, hg, rfl, rfl, hk, hO, hE, hG, hI, hR⟩ := hrel
    obtain ⟨wo, rfl⟩ : ∃ W, W = wr := ⟨_, rfl⟩
    have x1 := hE.out.at_ 1 _ rfl
    obtain rfl : k = ii := hk.out.1
    by_cases hlt : k < n
    · have hltz : (k : Int) < (n : Int) := by omega
      by_cases he2 : e2 = 0
      · subst he2
        have hcl := text_any b s2 0 wo hI.out.1 hI.out.2 hE.out
        have HCL := Lib.hid hcl
        clear hcl
        go_wp2_with fail
        refine HCL.out.mono ?_
        rintro en w3 ⟨y, hy, rfl, s3, e3, hB3, hg3, hs3, he3, hR3⟩
        have hgo := hG.out.1.trans_ hg3
        have hO3 := hO.out.read StrR.stays hg3 hbl hk.out.2.2
        have hn255 := hn
        have HGO := Lib.hid hgo; have HO3 := Lib.hid hO3; have HG3 := Lib.hid hg3; have HB3 := Lib.hid hB3; have HI3 := Lib.hid hs3; have HJ3 := Lib.hid he3; have HR3 := Lib.hid hR3
        clear hgo hO3 hg3 hB3 hs3 he3 hR3
        clear HCL x1
        go_wp2_with (at_builtin; go_must ((refine wpList_push StrR.stays (.string ⟨#[]⟩) [.string y] y rfl rfl Try.underlying35 (bytes := 16) (by kernel_rfl) HO3.out rfl rfl (by decide) rfl rfl (G := none_) (⟨rfl, hy⟩) (by intro u hu; simp at hu; subst hu; rfl) (fun k hk => hk.elim) (by unfold maxLen; have := hk.out.2.1; omega) (by have := hk.out.2.1; omega) (Nat.le_trans HG1.out.size (Nat.le_trans hG.out.2 HG3.out.size)) ?_); (intro A5 c5 w5 hO5 hgr5 hloc5; have HO5 := Lib.hid hO5; have HGR5 := Lib.hid hgr5; clear hO5 hgr5 hloc5)))
        go_roundg (n - (k + 1))
        case measure => omega
        case rel =>
          exact ⟨k + 1, A5, xs.length + 1, c5, xs ++ [y], _, s3, e3, by omega, by omega, rfl, by go_num, aside ⟨by have := hk.out.2.1; omega, by have := hk.out.2.1; simp; omega, fun j hj => hj.elim (hk.out.2.2 j) (fun h => h.elim)⟩, aside HO5.out, aside (HGR5.out.box HB3.out hbl),
            aside ⟨HGO.out.then_ HGR5.out, Nat.le_trans hG.out.2 (Nat.le_trans HG3.out.size HGR5.out.size)⟩, aside ⟨HI3.out, HJ3.out⟩, aside (hR.out.next HR3.out)⟩
      · have hez : (e2 == 0) = false := by simp [he2]
        go_wp2_with fail
        go_ret
        exact ⟨A, k, c, rfl, xs, hO.out.slice StrR.stays (fun j hj => ⟨hk.out.2.2 j hj, (hO.out.foot hj).1⟩) (fun j h1 h2 => ⟨h1, h2⟩) (by have := hk.out.2.1; omega) (by have := hk.out.2.1; omega), by have := hk.out.2.1; omega, s2, e2, hE.out, hG.out.1, hI.out.1, hI.out.2, HR1.out.list_ (hR.out.stop he2 hii)⟩
    · have hltz : ¬ (k : Int) < (n : Int) := by omega
      obtain rfl : k = n := by omega
      go_wp2_with fail
      go_ret
      exact ⟨A, k, c, rfl, xs, hO.out.slice StrR.stays (fun j hj => ⟨hk.out.2.2 j hj, (hO.out.foot hj).1⟩) (fun j h1 h2 => ⟨h1, h2⟩) (by have := hk.out.2.1; omega) (by have := hk.out.2.1; omega), by have := hk.out.2.1; omega, s2, e2, hE.out, hG.out.1, hI.out.1, hI.out.2, HR1.out.list_ hR.out⟩

end Go.Proofs.Ytoejhgbndehaiaa
