import Derived.Test.YtdjbkccoofcnjaaGreatNvD5
import Derived.Test.YtdjbkccoofcnjaaGreatNvC6
import Derived.Test.YtdjbkccoofcnjaaGreatNvC9
set_option linter.all false
set_option linter.unusedVariables false
set_option linter.unusedSimpArgs false
section
namespace Go.Nv
open Go.Proofs Nw
set_option maxRecDepth 100000
set_option linter.unusedVariables false
set_option linter.unusedSimpArgs false
theorem inv_rd (S : Int) (t : Nat) (hS : S ≠ 0) : (⟨ng S, nb t, nb S.natAbs⟩ : RD).val = (mkRat S t)⁻¹ := by
  rw [val_eq]
  have e1 : dv (nb S.natAbs) = S.natAbs := by unfold dv; rw [bv_nb, if_neg (by omega)]
  simp only
  rw [e1, bv_nb, ← Rat.divInt_ofNat, ← Rat.divInt_ofNat, Rat.inv_divInt, ng_eq]
  unfold sg
  by_cases h : S < 0
  · rw [if_pos (by simpa using h), show (S.natAbs : Int) = -S by omega, Rat.neg_divInt_neg]
  · rw [if_neg (by simpa using h), show (S.natAbs : Int) = S by omega]
theorem rquo_r (r s : RD) (hr : Sz r) (hs : Sz s) (h0 : s.val ≠ 0) : Fun Tryz.prog 89 [rdD r, rdD s] [ratD (r.val / s.val), i64 0] := by
  have hS : iv s.neg s.num ≠ 0 := by
    intro h
    apply h0
    rw [val_mk, h, Rat.zero_mkRat]
  have z1 := iv_sz s
  have z2 := dv_sz s
  have c1 := rparts_c s (by have := hs.1; omega) (by have := hs.2; omega)
  have e : r.val / s.val = r.val * (⟨ng (iv s.neg s.num), nb (dv s.den), nb (iv s.neg s.num).natAbs⟩ : RD).val := by
    rw [inv_rd _ _ hS, Rat.div_def]; rfl
  have hz : Sz ⟨ng (iv s.neg s.num), nb (dv s.den), nb (iv s.neg s.num).natAbs⟩ := ⟨by have := hs.2; simp only; omega, by have := hs.1; simp only; omega⟩
  have c2 := rmul_r r _ hr hz
  rw [← e] at c2
  generalize iv s.neg s.num = S at *
  generalize dv s.den = t at *
  rw [zD_nat] at c1
  generalize r.val / s.val = Q at *
  refine fun_of_go (fun t => false) mixed tOk Tryz.func89 rfl rfl ?_
  conv => whnf
  refine call_data rfl rfl c1 ?_
  conv => whnf
  refine cond_bf (by rw [nb_ne]; simpa using hS) ?_
  conv => whnf
  refine call_data rfl rfl c2 ?_
  conv => whnf
  exact ⟨⟨rfl, rfl, rfl, trivial⟩, rfl, trivial⟩
theorem radd_q {p q : Rat} (hp : Q p) (hq : Q q) : Fun Tryz.prog 87 [ratD p, ratD q] [ratD (p + q)] := by
  have := radd_r (canon p) (canon q) hp.sz hq.sz
  rwa [val_canon, val_canon, ← ratD_eq, ← ratD_eq] at this
theorem rmul_q {p q : Rat} (hp : Q p) (hq : Q q) : Fun Tryz.prog 181 [ratD p, ratD q] [ratD (p * q)] := by
  have := rmul_r (canon p) (canon q) hp.sz hq.sz
  rwa [val_canon, val_canon, ← ratD_eq, ← ratD_eq] at this
theorem rsub_q {p q : Rat} (hp : Q p) (hq : Q q) : Fun Tryz.prog 110 [ratD p, ratD q] [ratD (p - q)] := by
  have := rsub_r (canon p) (canon q) hp.sz hq.sz
  rwa [val_canon, val_canon, ← ratD_eq, ← ratD_eq] at this
theorem rneg_q {p : Rat} (hp : Q p) : Fun Tryz.prog 150 [ratD p] [ratD (-p)] := by
  have := rneg_r (canon p) hp.sz
  rwa [val_canon, ← ratD_eq] at this
theorem rcmp_q {p q : Rat} (hp : Q p) (hq : Q q) : Fun Tryz.prog 148 [ratD p, ratD q] [i64 (cmpI p q)] := by
  have := rcmp_r (canon p) (canon q) hp.sz hq.sz
  rwa [val_canon, val_canon, ← ratD_eq, ← ratD_eq] at this
theorem rsign_q {p : Rat} (hp : Q p) : Fun Tryz.prog 114 [ratD p] [i64 (sgnI p)] := by
  have := rsign_r (canon p) hp.sz
  rwa [val_canon, ← ratD_eq] at this
theorem rquo_q {p q : Rat} (hp : Q p) (hq : Q q) (h0 : q ≠ 0) : Fun Tryz.prog 89 [ratD p, ratD q] [ratD (p / q), i64 0] := by
  have := rquo_r (canon p) (canon q) hp.sz hq.sz (by rw [val_canon]; exact h0)
  rwa [val_canon, val_canon, ← ratD_eq, ← ratD_eq] at this
theorem rratio_q (n : Int) (d : Nat) (h : -9223372036854775808 < n ∧ n ≤ 9223372036854775807) (hd : 0 < d ∧ d ≤ 9223372036854775807) : Fun Tryz.prog 202 [i64 n, i64 (d : Int)] [ratD (Rat.divInt n d), i64 0] := by
  have := rratio_c n d h hd
  rwa [← Rat.divInt_ofNat] at this
end Go.Nv
end
section
namespace Go.Nv
open Go.Proofs Nw
set_option maxRecDepth 100000
set_option linter.unusedVariables false
set_option linter.unusedSimpArgs false
theorem rvcheck_c (r s : RD) (hr : Sz r) (hs : Sz s) : Fun Tryz.prog 73 [ptR r s] [i64 (okP r s)] := by
  refine fun_of_go (fun t => false) mixed tOk Tryz.func73 rfl rfl ?_
  conv => whnf
  refine call_data rfl rfl (rcheck_r r hr) ?_
  conv => whnf
  refine cond_ne (fun h => ?_) (fun h => ?_)
  · conv => whnf
    refine ⟨?_, trivial⟩
    conv => whnf
    unfold okP; rw [if_neg (fun h' => h (okN_zero.2 h'.1))]
  · conv => whnf
    refine call_data rfl rfl (rcheck_r s hs) ?_
    conv => whnf
    refine cond_ne (fun h2 => ?_) (fun h2 => ?_)
    · conv => whnf
      refine ⟨?_, trivial⟩
      conv => whnf
      unfold okP; rw [if_neg (fun h' => h2 (okN_zero.2 h'.2))]
    · conv => whnf
      refine ⟨?_, trivial⟩
      conv => whnf
      exact (okP_zero.2 ⟨okN_zero.1 h, okN_zero.1 h2⟩).symm
theorem rvalid_c (a b c d : RD) (ha : Sz a) (hb : Sz b) (hc : Sz c) (hd : Sz d) : Fun Tryz.prog 146 [quR a b c d] [.v (.bool (vbB a b c d))] := by
  have fin : ∀ z : Bool, (z = true ↔ okP a b = 0 ∧ okP c d = 0 ∧ a.val < c.val ∧ b.val < d.val) → z = vbB a b c d := fun z hz => by
    unfold vbB
    rw [Bool.eq_iff_iff, hz, decide_eq_true_eq]
  refine fun_of_go (fun t => false) mixed tOk Tryz.func146 rfl rfl ?_
  conv => whnf
  refine call_data rfl rfl (rvcheck_c a b ha hb) ?_
  conv => whnf
  refine cond_e (fun h => ?_) (fun h => ?_)
  · conv => whnf
    refine call_data rfl rfl (rvcheck_c c d hc hd) ?_
    conv => whnf
    refine cond_e (fun h2 => ?_) (fun h2 => ?_)
    · conv => whnf
      refine call_data rfl rfl (rcmp_r a c ha hc) ?_
      conv => whnf
      refine cond_d (fun h3 => ?_) (fun h3 => ?_)
      · conv => whnf
        refine call_data rfl rfl (rcmp_r b d hb hd) ?_
        conv => whnf
        refine ⟨?_, trivial⟩
        conv => whnf
        rw [bz_eq]
        refine fin _ ?_
        rw [cmpI_neg] at h3
        rw [decide_eq_true_eq, cmpI_neg]
        exact ⟨fun h4 => ⟨h, h2, h3, h4⟩, fun h4 => h4.2.2.2⟩
      · conv => whnf
        refine ⟨?_, trivial⟩
        conv => whnf
        refine fin _ ?_
        rw [cmpI_neg] at h3
        simp [h3]
    · conv => whnf
      refine ⟨?_, trivial⟩
      conv => whnf
      refine fin _ ?_
      simp [h2]
  · conv => whnf
    refine ⟨?_, trivial⟩
    conv => whnf
    refine fin _ ?_
    simp [h]
theorem along_c {x y : Rat} {a : Int} {b : Nat} {n : Nat} (hx : Bd n x) (hy : Bd n y) (hn : n < 1000000000) (ha : a.natAbs ≤ 256) (hb : 0 < b ∧ b ≤ 256) :
    Fun Tryz.prog 152 [ratD x, ratD y, i64 a, i64 (b : Int)] [ratD (x + Rat.divInt a b * (y - x))] := by
  have ht := Bd.ratio (a := a) (b := (b : Int)) ha (by omega)
  have e : (y - x) * Rat.divInt a b = Rat.divInt a b * (y - x) := Rat.mul_comm _ _
  have c3 := rmul_q (p := y - x) (q := Rat.divInt a b) (.mk (hy.sub hx) (by omega)) (.mk ht (by omega))
  rw [e] at c3
  refine fun_of_go (fun t => false) mixed tOk Tryz.func152 rfl rfl ?_
  conv => whnf
  refine call_data rfl rfl (rratio_q a b (by omega) (by omega)) ?_
  conv => whnf
  refine callv_data (rsub_q (.mk hy (by omega)) (.mk hx (by omega))) ?_
  conv => whnf
  refine callv_data c3 ?_
  conv => whnf
  refine callv_data (radd_q (.mk hx (by omega)) (.mk (ht.mul (hy.sub hx)) (by omega))) ?_
  conv => whnf
  refine safe_intro (by kernel_rfl) ?_
  conv => whnf
  exact ⟨⟨rfl, rfl, rfl, trivial⟩, trivial⟩
end Go.Nv
end
section
namespace Go.Nv
open Go.Proofs Nw
set_option maxRecDepth 100000
set_option linter.unusedVariables false
set_option linter.unusedSimpArgs false
theorem fpix_c {x0 y0 x1 y1 : Rat} {c r : Nat} {k : Int} {n : Nat} (h0 : Bd n x0) (h1 : Bd n y0) (h2 : Bd n x1) (h3 : Bd n y1) (hn : n < 100000000)
    (hcr : 1 ≤ c ∧ c ≤ 128) (hrr : 1 ≤ r ∧ r ≤ 128) (hk : 0 ≤ k) (hlt : k < (c : Int) * r) :
    Fun Tryz.prog 76 [quD x0 y0 x1 y1, i64 (c : Int), i64 (r : Int), i64 k] [quD (pxX x0 x1 c (Int.tmod k c)) (pxY y0 y1 r (Int.tdiv k c + 1)) (pxX x0 x1 c (Int.tmod k c + 1)) (pxY y0 y1 r (Int.tdiv k c))] := by
  have k1 : (c : Int) * r ≤ 128 * 128 := Int.mul_le_mul (by omega) (by omega) (by omega) (by omega)
  have d1 := Int.tmod_nonneg (b := (c : Int)) (a := k) (by omega)
  have d2 := Int.tmod_lt_of_pos k (b := (c : Int)) (by omega)
  have d3 : 0 ≤ Int.tdiv k c := Int.tdiv_nonneg (by omega) (by omega)
  have d4 : Int.tdiv k c < r := by
    rw [Int.tdiv_eq_ediv_of_nonneg (by omega)]
    exact Int.ediv_lt_of_lt_mul (by omega) (by rw [Int.mul_comm]; exact hlt)
  unfold pxX pxY
  refine fun_of_go (fun t => false) mixed tOk Tryz.func76 rfl rfl ?_
  conv => whnf
  refine sd_d (by omega) ?_
  conv => whnf
  refine sd_dd (by omega) (by omega) ?_
  conv => whnf
  refine safe_intro (by kernel_rfl) ?_
  conv => whnf
  generalize Int.tmod k c = u at *
  generalize Int.tdiv k c = v at *
  refine callv_data (along_c h0 h2 (by omega) (by omega) (by omega)) ?_
  conv => whnf
  refine sd_d (by omega) ?_
  conv => whnf
  refine callv_data (along_c h3 h1 (by omega) (by omega) (by omega)) ?_
  conv => whnf
  refine safe_intro (by kernel_rfl) ?_
  conv => whnf
  refine sd_d (by omega) ?_
  conv => whnf
  refine callv_data (along_c h0 h2 (by omega) (by omega) (by omega)) ?_
  conv => whnf
  refine callv_data (along_c h3 h1 (by omega) (by omega) (by omega)) ?_
  conv => whnf
  refine safe_intro (by kernel_rfl) ?_
  conv => whnf
  refine ⟨?_, trivial⟩
  conv => whnf
  exact ⟨rfl, rfl, rfl, rfl, rfl, rfl, rfl, rfl, rfl, rfl, rfl, rfl, trivial⟩
theorem rgchk1 (a b c d : RD) (ha : Sz a) (hb : Sz b) (hc : Sz c) (hd : Sz d) (h : vbB a b c d = true) (m n : Int) : Fun Tryz.prog 74 [quR a b c d, i64 m, i64 n] [i64 (gcE m n)] := by
  have c1 := rvalid_c a b c d ha hb hc hd
  rw [h] at c1
  have e2 : (m < 1 ∨ m > 128 ∨ n < 1 ∨ n > 128) → gcE m n = 2 := fun h => by unfold gcE; rw [if_pos h]
  have e0 : ¬ (m < 1 ∨ m > 128 ∨ n < 1 ∨ n > 128) → gcE m n = 0 := fun h => by unfold gcE; rw [if_neg h]
  refine fun_of_go (fun t => false) mixed tOk Tryz.func74 rfl rfl ?_
  conv => whnf
  refine call_data rfl rfl c1 ?_
  conv => whnf
  refine cond_d (fun g1 => ?_) (fun g1 => ?_)
  · conv => whnf
    refine ⟨?_, trivial⟩
    conv => whnf
    exact (e2 (by omega)).symm
  · conv => whnf
    refine cond_d (fun g2 => ?_) (fun g2 => ?_)
    · conv => whnf
      refine ⟨?_, trivial⟩
      conv => whnf
      exact (e2 (by omega)).symm
    · conv => whnf
      refine cond_d (fun g3 => ?_) (fun g3 => ?_)
      · conv => whnf
        refine ⟨?_, trivial⟩
        conv => whnf
        exact (e2 (by omega)).symm
      · conv => whnf
        refine cond_d (fun g4 => ?_) (fun g4 => ?_)
        · conv => whnf
          refine ⟨?_, trivial⟩
          conv => whnf
          exact (e2 (by omega)).symm
        · conv => whnf
          refine ⟨?_, trivial⟩
          conv => whnf
          exact (e0 (by omega)).symm
theorem rgchkx (a b c d : RD) (ha : Sz a) (hb : Sz b) (hc : Sz c) (hd : Sz d) (h : vbB a b c d = false) (m n : Int) : Fun Tryz.prog 74 [quR a b c d, i64 m, i64 n] [i64 1] := by
  have c1 := rvalid_c a b c d ha hb hc hd
  rw [h] at c1
  refine fun_of_go (fun t => false) mixed tOk Tryz.func74 rfl rfl ?_
  conv => whnf
  refine call_data rfl rfl c1 ?_
  conv => whnf
  exact ⟨rfl, trivial⟩
end Go.Nv
end
section
namespace Go.Nv
open Go.Proofs Nw
set_option maxRecDepth 100000
set_option linter.unusedVariables false
set_option linter.unusedSimpArgs false
def rcL (f s lo : Rat) : Rat := if 0 < s ∧ lo < -f / s then -f / s else lo
def rcH (f s hi : Rat) : Rat := if s < 0 ∧ -f / s < hi then -f / s else hi
@[irreducible] def rcB (f s lo hi : Rat) : Bool := if s = 0 then decide (0 ≤ f) else decide (rcL f s lo ≤ rcH f s hi)
theorem sgn_cases (q : Rat) : (sgnI q = 0 ∧ q = 0) ∨ (sgnI q = 1 ∧ 0 < q) ∨ (sgnI q = -1 ∧ q < 0) := by
  rw [sgnI_eq]; unfold sgnQ
  rcases Std.lt_trichotomy q 0 with h | h | h
  · right; right; rw [if_pos h]; exact ⟨rfl, h⟩
  · left; subst h; exact ⟨by decide, rfl⟩
  · right; left; rw [if_neg (by grind), if_pos h]; exact ⟨rfl, h⟩
theorem cmpI_pos {p q : Rat} : 0 < cmpI p q ↔ q < p := by
  rw [cmpI_eq]; unfold cmpQ; split <;> (try split) <;> first | simp_all; grind | simp_all
theorem cmpI_le {p q : Rat} : cmpI p q ≤ 0 ↔ p ≤ q := by
  have := cmpI_pos (p := p) (q := q)
  constructor
  · intro h; have : ¬ q < p := fun hh => by have := this.2 hh; omega
    grind
  · intro h; have : ¬ 0 < cmpI p q := fun hh => by have := this.1 hh; grind
    omega
theorem rcut_c {lo hi f s : Rat} (h1 : Q lo) (h2 : Q hi) (h3 : Q f) (h4 : Q s) (h5 : Q (-f)) (h6 : Q (-f / s)) : Fun Tryz.prog 151 [ratD lo, ratD hi, ratD f, ratD s] [ratD (rcL f s lo), ratD (rcH f s hi), .v (.bool (rcB f s lo hi))] := by
  have c1 := rsign_q h4
  have c2 := rsign_q h3
  have c3 := rneg_q h3
  have c4 := rquo_q h5 h4
  unfold rcB
  rcases sgn_cases s with ⟨g1, g2⟩ | ⟨g1, g2⟩ | ⟨g1, g2⟩
  · rw [g1] at c1
    have e1 : rcL f s lo = lo := by unfold rcL; rw [if_neg (by grind)]
    have e2 : rcH f s hi = hi := by unfold rcH; rw [if_neg (by grind)]
    rw [e1, e2, if_pos g2]
    refine fun_of_go (fun t => t == 4 || t == 5) mixed tOk Tryz.func151 rfl rfl ?_
    conv => whnf
    refine call_data rfl rfl c1 ?_
    conv => whnf
    refine cond_bt (by simp) ?_
    conv => whnf
    refine callv_data c2 ?_
    conv => whnf
    refine safe_intro (by kernel_rfl) ?_
    conv => whnf
    refine ⟨⟨rfl, rfl, rfl, trivial⟩, ⟨rfl, rfl, rfl, trivial⟩, ?_, trivial⟩
    conv => whnf
    rw [bz_eq, decide_eq_decide]
    exact sgnI_nonneg
  · rw [g1] at c1
    have hs0 : s ≠ 0 := by grind
    rw [if_neg hs0]
    have e2 : rcH f s hi = hi := by unfold rcH; rw [if_neg (by grind)]
    rw [e2]
    refine fun_of_go (fun t => t == 4 || t == 5) mixed tOk Tryz.func151 rfl rfl ?_
    conv => whnf
    refine call_data rfl rfl c1 ?_
    conv => whnf
    refine cond_bf (by decide) ?_
    conv => whnf
    refine cond_bt (by decide) ?_
    conv => whnf
    refine callv_data c3 ?_
    conv => whnf
    refine callv_data (c4 hs0) ?_
    conv => whnf
    refine safe_intro (by kernel_rfl) ?_
    conv => whnf
    refine call_data rfl rfl (rcmp_q h6 h1) ?_
    conv => whnf
    refine cond_d (fun g => ?_) (fun g => ?_)
    · have e1 : rcL f s lo = -f / s := by unfold rcL; rw [if_pos ⟨g2, cmpI_pos.1 g⟩]
      rw [e1]
      conv => whnf
      refine callv_data (rcmp_q h6 h2) ?_
      conv => whnf
      refine safe_intro (by kernel_rfl) ?_
      conv => whnf
      refine ⟨⟨rfl, rfl, rfl, trivial⟩, ⟨rfl, rfl, rfl, trivial⟩, ?_, trivial⟩
      conv => whnf
      rw [bz_eq, decide_eq_decide]
      exact cmpI_le
    · have e1 : rcL f s lo = lo := by unfold rcL; rw [if_neg (fun h => g (cmpI_pos.2 h.2))]
      rw [e1]
      conv => whnf
      refine callv_data (rcmp_q h1 h2) ?_
      conv => whnf
      refine safe_intro (by kernel_rfl) ?_
      conv => whnf
      refine ⟨⟨rfl, rfl, rfl, trivial⟩, ⟨rfl, rfl, rfl, trivial⟩, ?_, trivial⟩
      conv => whnf
      rw [bz_eq, decide_eq_decide]
      exact cmpI_le
  · rw [g1] at c1
    have hs0 : s ≠ 0 := by grind
    rw [if_neg hs0]
    have e1 : rcL f s lo = lo := by unfold rcL; rw [if_neg (by grind)]
    rw [e1]
    refine fun_of_go (fun t => t == 4 || t == 5) mixed tOk Tryz.func151 rfl rfl ?_
    conv => whnf
    refine call_data rfl rfl c1 ?_
    conv => whnf
    refine cond_bf (by decide) ?_
    conv => whnf
    refine cond_bf (by decide) ?_
    conv => whnf
    refine callv_data c3 ?_
    conv => whnf
    refine callv_data (c4 hs0) ?_
    conv => whnf
    refine safe_intro (by kernel_rfl) ?_
    conv => whnf
    refine call_data rfl rfl (rcmp_q h6 h2) ?_
    conv => whnf
    refine cond_d (fun g => ?_) (fun g => ?_)
    · have e2 : rcH f s hi = -f / s := by unfold rcH; rw [if_pos ⟨g2, cmpI_neg.1 g⟩]
      rw [e2]
      conv => whnf
      refine callv_data (rcmp_q h1 h6) ?_
      conv => whnf
      refine safe_intro (by kernel_rfl) ?_
      conv => whnf
      refine ⟨⟨rfl, rfl, rfl, trivial⟩, ⟨rfl, rfl, rfl, trivial⟩, ?_, trivial⟩
      conv => whnf
      rw [bz_eq, decide_eq_decide]
      exact cmpI_le
    · have e2 : rcH f s hi = hi := by unfold rcH; rw [if_neg (fun h => g (cmpI_neg.2 h.2))]
      rw [e2]
      conv => whnf
      refine callv_data (rcmp_q h1 h2) ?_
      conv => whnf
      refine safe_intro (by kernel_rfl) ?_
      conv => whnf
      refine ⟨⟨rfl, rfl, rfl, trivial⟩, ⟨rfl, rfl, rfl, trivial⟩, ?_, trivial⟩
      conv => whnf
      rw [bz_eq, decide_eq_decide]
      exact cmpI_le
end Go.Nv
end
section
namespace Go.Nv
open Go.Proofs Nw
set_option maxRecDepth 100000
set_option linter.unusedVariables false
set_option linter.unusedSimpArgs false
theorem fsub_c {x y u v : Rat} (hx : Q x) (hy : Q y) (hu : Q u) (hv : Q v) : Fun Tryz.prog 149 [ptD x y, ptD u v] [ptD (x - u) (y - v)] := by
  refine fun_of_go (fun t => false) mixed tOk Tryz.func149 rfl rfl ?_
  conv => whnf
  refine callv_data (rsub_q hx hu) ?_
  conv => whnf
  refine callv_data (rsub_q hy hv) ?_
  conv => whnf
  refine safe_intro (by kernel_rfl) ?_
  conv => whnf
  exact ⟨⟨rfl, rfl, rfl, rfl, rfl, rfl, trivial⟩, trivial⟩
theorem fadd_c {x y u v : Rat} (hx : Q x) (hy : Q y) (hu : Q u) (hv : Q v) : Fun Tryz.prog 183 [ptD x y, ptD u v] [ptD (x + u) (y + v)] := by
  refine fun_of_go (fun t => false) mixed tOk Tryz.func183 rfl rfl ?_
  conv => whnf
  refine callv_data (radd_q hx hu) ?_
  conv => whnf
  refine callv_data (radd_q hy hv) ?_
  conv => whnf
  refine safe_intro (by kernel_rfl) ?_
  conv => whnf
  exact ⟨⟨rfl, rfl, rfl, rfl, rfl, rfl, trivial⟩, trivial⟩
theorem fscale_c {x y k : Rat} (hx : Q x) (hy : Q y) (hk : Q k) : Fun Tryz.prog 198 [ptD x y, ratD k] [ptD (x * k) (y * k)] := by
  refine fun_of_go (fun t => false) mixed tOk Tryz.func198 rfl rfl ?_
  conv => whnf
  refine callv_data (rmul_q hx hk) ?_
  conv => whnf
  refine callv_data (rmul_q hy hk) ?_
  conv => whnf
  refine safe_intro (by kernel_rfl) ?_
  conv => whnf
  exact ⟨⟨rfl, rfl, rfl, rfl, rfl, rfl, trivial⟩, trivial⟩
theorem fat_c {x y u v k : Rat} (hx : Q x) (hy : Q y) (hu : Q u) (hv : Q v) (hk : Q k) (h1 : Q (u - x)) (h2 : Q (v - y)) (h3 : Q ((u - x) * k)) (h4 : Q ((v - y) * k)) :
    Fun Tryz.prog 111 [ptD x y, ptD u v, ratD k] [ptD (x + (u - x) * k) (y + (v - y) * k)] := by
  refine fun_of_go (fun t => false) mixed tOk Tryz.func111 rfl rfl ?_
  conv => whnf
  refine callv_data (fsub_c hu hv hx hy) ?_
  conv => whnf
  refine callv_data (fscale_c h1 h2 hk) ?_
  conv => whnf
  refine callv_data (fadd_c hx hy h3 h4) ?_
  conv => whnf
  refine safe_intro (by kernel_rfl) ?_
  conv => whnf
  exact ⟨⟨rfl, rfl, rfl, rfl, rfl, rfl, trivial⟩, trivial⟩
theorem fcmp_c {x y u v : Rat} (hx : Q x) (hy : Q y) (hu : Q u) (hv : Q v) : Fun Tryz.prog 164 [ptD x y, ptD u v] [i64 (if cmpI x u = 0 then cmpI y v else cmpI x u)] := by
  refine fun_of_go (fun t => false) mixed tOk Tryz.func164 rfl rfl ?_
  conv => whnf
  refine call_data rfl rfl (rcmp_q hx hu) ?_
  conv => whnf
  refine cond_ne (fun h => ?_) (fun h => ?_)
  · conv => whnf
    refine ⟨?_, trivial⟩
    conv => whnf
    rw [if_neg h]
  · conv => whnf
    refine call_data rfl rfl (rcmp_q hy hv) ?_
    conv => whnf
    refine ⟨?_, trivial⟩
    conv => whnf
    rw [if_pos h]
theorem fscheck_c {x y u v : Rat} (hx : Q x) (hy : Q y) (hu : Q u) (hv : Q v) : Fun Tryz.prog 147 [quD x y u v] [i64 (sgE x y u v)] := by
  have e : (if cmpI x u = 0 then cmpI y v else cmpI x u) = 0 ↔ x = u ∧ y = v := by
    split
    · rename_i h; rw [cmpI_zero] at h; rw [cmpI_zero]; exact ⟨fun h2 => ⟨h, h2⟩, fun h2 => h2.2⟩
    · rename_i h; exact ⟨fun h2 => absurd h2 h, fun h2 => absurd (cmpI_zero.2 h2.1) h⟩
  refine fun_of_go (fun t => false) mixed tOk Tryz.func147 rfl rfl ?_
  conv => whnf
  refine call_data rfl rfl (fcmp_c hx hy hu hv) ?_
  conv => whnf
  refine cond_e (fun h => ?_) (fun h => ?_)
  · conv => whnf
    refine ⟨?_, trivial⟩
    conv => whnf
    unfold sgE; rw [if_pos (e.1 h)]
  · conv => whnf
    refine ⟨?_, trivial⟩
    conv => whnf
    unfold sgE; rw [if_neg (fun hh => h (e.2 hh))]
def rTo (x0 y0 x1 y1 xa ya xb yb : Rat) : Nat → Option (Rat × Rat)
  | 0 => some (0, 1)
  | j + 1 => (rTo x0 y0 x1 y1 xa ya xb yb j).bind fun p =>
      let f := sdQ x0 y0 x1 y1 xa ya j
      let s := sdQ x0 y0 x1 y1 xb yb j - f
      if rcB f s p.1 p.2 = true then some (rcL f s p.1, rcH f s p.2) else none
theorem clStep_some {f t : Rat} {p : Rat × Rat} : clStep f t p = if t - f = 0 ∧ f < 0 then none else some (rcL f (t - f) p.1, rcH f (t - f) p.2) := by
  unfold clStep rcL rcH
  by_cases h0 : t - f = 0
  · rw [if_pos h0, h0]
    by_cases h1 : f < 0
    · rw [if_pos h1, if_pos ⟨rfl, h1⟩]
    · rw [if_neg h1, if_neg (fun h => h1 h.2), if_neg (by grind), if_neg (by grind)]
  · have hn : ¬ (t - f = 0 ∧ f < 0) := fun h => h0 h.1
    rw [if_neg h0, if_neg hn]
    by_cases h1 : 0 < t - f ∧ p.1 < -f / (t - f)
    · have h2 : ¬ (t - f < 0 ∧ -f / (t - f) < p.2) := by grind
      rw [if_pos h1, if_pos h1, if_neg h2]
    · rw [if_neg h1, if_neg h1]
      by_cases h2 : t - f < 0 ∧ -f / (t - f) < p.2
      · rw [if_pos h2, if_pos h2]
      · rw [if_neg h2, if_neg h2]
theorem rcL_ge (f s lo : Rat) : lo ≤ rcL f s lo := by unfold rcL; split <;> grind
theorem rcH_le (f s hi : Rat) : rcH f s hi ≤ hi := by unfold rcH; split <;> grind
theorem rTo_cl (x0 y0 x1 y1 xa ya xb yb : Rat) : ∀ j, (∀ p, rTo x0 y0 x1 y1 xa ya xb yb j = some p → clTo x0 y0 x1 y1 xa ya xb yb j = some p ∧ p.1 ≤ p.2) ∧
    (rTo x0 y0 x1 y1 xa ya xb yb j = none → clTo x0 y0 x1 y1 xa ya xb yb j = none ∨ ∃ p, clTo x0 y0 x1 y1 xa ya xb yb j = some p ∧ p.2 < p.1)
  | 0 => ⟨fun p h => by simp [rTo] at h; subst h; exact ⟨rfl, by decide⟩, fun h => by simp [rTo] at h⟩
  | j + 1 => by
    obtain ⟨i1, i2⟩ := rTo_cl x0 y0 x1 y1 xa ya xb yb j
    show (∀ p, (rTo x0 y0 x1 y1 xa ya xb yb j).bind _ = some p → (clTo x0 y0 x1 y1 xa ya xb yb j).bind _ = some p ∧ _) ∧ ((rTo x0 y0 x1 y1 xa ya xb yb j).bind _ = none → (clTo x0 y0 x1 y1 xa ya xb yb j).bind _ = none ∨ ∃ p, (clTo x0 y0 x1 y1 xa ya xb yb j).bind _ = some p ∧ _)
    generalize sdQ x0 y0 x1 y1 xa ya j = f
    generalize sdQ x0 y0 x1 y1 xb yb j = t
    cases hr : rTo x0 y0 x1 y1 xa ya xb yb j with
    | none =>
      refine ⟨fun p h => by simp at h, fun _ => ?_⟩
      rcases i2 hr with h | ⟨p, h, hp⟩
      · left; rw [h]; rfl
      · rw [h]
        simp only [Option.bind_some, clStep_some]
        by_cases h0 : t - f = 0 ∧ f < 0
        · left; rw [if_pos h0]
        · right; rw [if_neg h0]
          have := rcL_ge f (t - f) p.1
          have := rcH_le f (t - f) p.2
          exact ⟨_, rfl, by simp only; grind⟩
    | some p =>
      obtain ⟨h1, h2⟩ := i1 p hr
      rw [h1]
      simp only [Option.bind_some, clStep_some]
      unfold rcB
      by_cases hs : t - f = 0
      · rw [if_pos hs]
        have e1 : rcL f (t - f) p.1 = p.1 := by unfold rcL; rw [if_neg (by grind)]
        have e2 : rcH f (t - f) p.2 = p.2 := by unfold rcH; rw [if_neg (by grind)]
        rw [e1, e2]
        by_cases hf : f < 0
        · rw [if_neg (by simp; grind), if_pos ⟨hs, hf⟩]
          exact ⟨fun p h => by simp at h, fun _ => .inl rfl⟩
        · rw [if_pos (by simp; grind), if_neg (fun h => hf h.2)]
          exact ⟨fun q h => by simp at h; subst h; exact ⟨rfl, h2⟩, fun h => by simp at h⟩
      · have hn : ¬ (t - f = 0 ∧ f < 0) := fun h => hs h.1
        rw [if_neg hs, if_neg hn]
        by_cases hl : rcL f (t - f) p.1 ≤ rcH f (t - f) p.2
        · rw [if_pos (by simpa using hl)]
          exact ⟨fun q h => by simp at h; subst h; exact ⟨rfl, hl⟩, fun h => by simp at h⟩
        · rw [if_neg (by simpa using hl)]
          exact ⟨fun p h => by simp at h, fun _ => .inr ⟨_, rfl, by simp only; grind⟩⟩
end Go.Nv
end
section
namespace Go.Nv
open Go.Proofs Nw
set_option maxRecDepth 100000
set_option linter.unusedVariables false
set_option linter.unusedSimpArgs false
theorem sdQ_bd {x0 y0 x1 y1 x y : Rat} {n : Nat} (h0 : Bd n x0 ∧ Bd n y0) (h1 : Bd n x1 ∧ Bd n y1) (h : Bd n x ∧ Bd n y) : ∀ j, Bd (2 * n + 1) (sdQ x0 y0 x1 y1 x y j)
  | 0 => (h.1.sub h0.1).mono (by omega)
  | 1 => (h1.1.sub h.1).mono (by omega)
  | 2 => (h.2.sub h0.2).mono (by omega)
  | n + 3 => (h1.2.sub h.2).mono (by omega)
theorem rTo_bd {x0 y0 x1 y1 xa ya xb yb : Rat} {n : Nat} (hf : ∀ j, Bd n (sdQ x0 y0 x1 y1 xa ya j)) (ht : ∀ j, Bd n (sdQ x0 y0 x1 y1 xb yb j)) :
    ∀ j p, clTo x0 y0 x1 y1 xa ya xb yb j = some p → Bd (3 * n + 1) p.1 ∧ Bd (3 * n + 1) p.2
  | 0, p, h => by
    simp [clTo] at h; subst h
    have a0 : Bd 1 ((0 : Int) : Rat) := bd_int 0 (by decide)
    have a1 : Bd 1 ((1 : Int) : Rat) := bd_int 1 (by decide)
    exact ⟨a0.mono (by omega), a1.mono (by omega)⟩
  | j + 1, p, h => by
    have h' : (clTo x0 y0 x1 y1 xa ya xb yb j).bind (clStep (sdQ x0 y0 x1 y1 xa ya j) (sdQ x0 y0 x1 y1 xb yb j)) = some p := h
    cases hc : clTo x0 y0 x1 y1 xa ya xb yb j with
    | none => rw [hc] at h'; simp at h'
    | some q =>
      rw [hc] at h'
      exact clStep_bd (hf j) (ht j) (rTo_bd hf ht j q hc) h'
def fcSt (xa ya xb yb x0 y0 x1 y1 : Rat) (j : Nat) (lo hi : Rat) (z : Bool) : St :=
  ⟨fr 122 [(2, .d (.p 0 (quD xa ya xb yb).cells)), (4, .ptr 0 0 0), (5, .d (.v (.bool false))), (6, .d (i64 0)),
    (8, .d (.l [ratD (xa - x0), ratD (x1 - xa), ratD (ya - y0), ratD (y1 - ya)])), (9, .d (.l [ratD (xb - xa), ratD (-(xb - xa)), ratD (yb - ya), ratD (-(yb - ya))])),
    (10, .ptr 2 0 0), (11, .ptr 3 0 0), (12, .d (.v (.bool z))), (13, .d (i64 (j : Int)))],
   [.box 46 [.d (.v (.bool false)), .d (.v (.string ⟨#[]⟩)), .d (.v (.string ⟨#[]⟩)), .d (.v (.bool false)), .d (.v (.string ⟨#[]⟩)), .d (.v (.string ⟨#[]⟩)),
      .d (.v (.bool false)), .d (.v (.string ⟨#[]⟩)), .d (.v (.string ⟨#[]⟩)), .d (.v (.bool false)), .d (.v (.string ⟨#[]⟩)), .d (.v (.string ⟨#[]⟩))],
    .box 29 [.d (.v (.bool (rneg (xb - xa)))), .d (.v (.string (rnum (xb - xa)))), .d (.v (.string (rden (xb - xa)))), .d (.v (.bool (rneg (yb - ya)))), .d (.v (.string (rnum (yb - ya)))), .d (.v (.string (rden (yb - ya))))],
    .box 27 [.d (.v (.bool (rneg lo))), .d (.v (.string (rnum lo))), .d (.v (.string (rden lo)))],
    .box 27 [.d (.v (.bool (rneg hi))), .d (.v (.string (rnum hi))), .d (.v (.string (rden hi)))]]⟩
theorem rTo_none {x0 y0 x1 y1 xa ya xb yb : Rat} {j : Nat} (h : rTo x0 y0 x1 y1 xa ya xb yb j = none) : ∀ m, rTo x0 y0 x1 y1 xa ya xb yb (j + m) = none
  | 0 => h
  | m + 1 => by
    show (rTo x0 y0 x1 y1 xa ya xb yb (j + m)).bind _ = none
    rw [rTo_none h m]; rfl
set_option maxHeartbeats 4000000 in
theorem fclip_c {xa ya xb yb x0 y0 x1 y1 : Rat} {n : Nat} (ha : Bd n xa ∧ Bd n ya) (hb : Bd n xb ∧ Bd n yb) (h0 : Bd n x0 ∧ Bd n y0) (h1 : Bd n x1 ∧ Bd n y1) (hn : n < 100000000)
    (hne : ¬ (xa = xb ∧ ya = yb)) (hx : x0 ≤ x1) (hy : y0 ≤ y1) :
    Fun Tryz.prog 75 [quD xa ya xb yb, quD x0 y0 x1 y1] [quD (clV x0 y0 x1 y1 xa ya xb yb).1 (clV x0 y0 x1 y1 xa ya xb yb).2.1 (clV x0 y0 x1 y1 xa ya xb yb).2.2.1 (clV x0 y0 x1 y1 xa ya xb yb).2.2.2, .v (.bool (clB x0 y0 x1 y1 xa ya xb yb)), i64 0] := by
  have qa : Q xa := .mk ha.1 (by omega)
  have qb : Q ya := .mk ha.2 (by omega)
  have qc : Q xb := .mk hb.1 (by omega)
  have qd : Q yb := .mk hb.2 (by omega)
  have q0 : Q x0 := .mk h0.1 (by omega)
  have q1 : Q y0 := .mk h0.2 (by omega)
  have q2 : Q x1 := .mk h1.1 (by omega)
  have q3 : Q y1 := .mk h1.2 (by omega)
  have hdx : Q (xb - xa) := .mk (hb.1.sub ha.1) (by omega)
  have hdy : Q (yb - ya) := .mk (hb.2.sub ha.2) (by omega)
  have hf := sdQ_bd h0 h1 ha
  have ht := sdQ_bd h0 h1 hb
  have hsg : sgE xa ya xb yb = 0 := by unfold sgE; rw [if_neg hne]
  have c1 := fscheck_c qa qb qc qd
  rw [hsg] at c1
  have law := rTo_cl x0 y0 x1 y1 xa ya xb yb
  have hbd := rTo_bd hf ht
  have hst : ∀ j, j < 4 → [xb - xa, -(xb - xa), yb - ya, -(yb - ya)][j]? = some (sdQ x0 y0 x1 y1 xb yb j - sdQ x0 y0 x1 y1 xa ya j) := by
    intro j hj
    rcases (show j = 0 ∨ j = 1 ∨ j = 2 ∨ j = 3 by omega) with rfl | rfl | rfl | rfl <;> simp [sdQ] <;> grind
  have hfr : ∀ j, j < 4 → [xa - x0, x1 - xa, ya - y0, y1 - ya][j]? = some (sdQ x0 y0 x1 y1 xa ya j) := by
    intro j hj
    rcases (show j = 0 ∨ j = 1 ∨ j = 2 ∨ j = 3 by omega) with rfl | rfl | rfl | rfl <;> rfl
  refine fun_of_go (fun t => false) mixed tOk Tryz.func75 rfl rfl ?_
  conv => whnf
  refine call_data rfl rfl c1 ?_
  conv => whnf
  refine cond_bf (by decide) ?_
  conv => whnf
  refine call_data rfl rfl (rcmp_q q0 q2) ?_
  conv => whnf
  refine cond_df (fun h => by rw [gt_iff_lt, cmpI_pos] at h; grind) ?_
  conv => whnf
  refine call_data rfl rfl (rcmp_q q1 q3) ?_
  conv => whnf
  refine cond_df (fun h => by rw [gt_iff_lt, cmpI_pos] at h; grind) ?_
  conv => whnf
  refine call_data rfl rfl (fsub_c qc qd qa qb) ?_
  conv => whnf
  refine callv_data (rsub_q qa q0) ?_
  conv => whnf
  refine callv_data (rsub_q q2 qa) ?_
  conv => whnf
  refine callv_data (rsub_q qb q1) ?_
  conv => whnf
  refine callv_data (rsub_q q3 qb) ?_
  conv => whnf
  refine safe_intro (by kernel_rfl) ?_
  conv => whnf
  refine callv_data (rneg_q hdx) ?_
  conv => whnf
  refine callv_data (rneg_q hdy) ?_
  conv => whnf
  refine safe_intro (by kernel_rfl) ?_
  conv => whnf
  have c9 : Fun Tryz.prog 115 [i64 1] [ratD 1] := by
    have h := rofr_c 1 (by omega)
    rwa [show ((1 : Int) : Rat) = 1 from rfl] at h
  refine call_data rfl rfl c9 ?_
  conv => whnf
  refine loop_intro (fun t => t == 4) (fun x : Nat × (Rat × Rat) × Bool => fcSt xa ya xb yb x0 y0 x1 y1 x.1 x.2.1.1 x.2.1.2 x.2.2)
    (fun x => x.1 ≤ 4 ∧ ((x.2.2 = true ∧ rTo x0 y0 x1 y1 xa ya xb yb x.1 = some x.2.1) ∨ (x.2.2 = false ∧ rTo x0 y0 x1 y1 xa ya xb yb 4 = none))) (fun x => 4 - x.1) (0, (0, 1), true) mixed tOk ⟨by omega, .inl ⟨rfl, rfl⟩⟩ ?_ ?_
  · unfold fcSt
    refine weak_r ?_ ?_ <;> repeat' (first | exact trivial | exact rfl | refine And.intro ?_ ?_)
    all_goals (conv => whnf)
    all_goals first | exact rneg_zero.symm | exact rnum_zero.symm | exact rden_zero.symm
  · rintro ⟨j, ⟨lo, hi⟩, z⟩ ⟨j1, j2⟩
    simp only at j1 j2 ⊢
    have hj4 : (z = true ∧ rTo x0 y0 x1 y1 xa ya xb yb j = some (lo, hi)) ∨ (z = false ∧ rTo x0 y0 x1 y1 xa ya xb yb 4 = none) := j2
    have u3 : Uni 3 [ratD (xa - x0), ratD (x1 - xa), ratD (ya - y0), ratD (y1 - ya)] := by intro x hx; simp at hx; rcases hx with rfl | rfl | rfl | rfl <;> rfl
    have u4 : Uni 3 [ratD (xb - xa), ratD (-(xb - xa)), ratD (yb - ya), ratD (-(yb - ya))] := by intro x hx; simp at hx; rcases hx with rfl | rfl | rfl | rfl <;> rfl
    rcases hj4 with ⟨rfl, hr⟩ | ⟨rfl, hr⟩
    · obtain ⟨l1, l2⟩ := (law j).1 _ hr
      obtain ⟨b1, b2⟩ := hbd j _ l1
      simp only at b1 b2 l2
      unfold fcSt
      conv => whnf
      refine cond_d (fun g => ?_) (fun g => ?_)
      · have hj : j < 4 := by omega
        have g1 : [ratD (xa - x0), ratD (x1 - xa), ratD (ya - y0), ratD (y1 - ya)][((j : Int)).toNat]? = some (ratD (sdQ x0 y0 x1 y1 xa ya j)) := by
          have := hfr j hj
          rw [Int.toNat_natCast, show [ratD (xa - x0), ratD (x1 - xa), ratD (ya - y0), ratD (y1 - ya)] = [xa - x0, x1 - xa, ya - y0, y1 - ya].map ratD from rfl, List.getElem?_map, this]; rfl
        have g2 : [ratD (xb - xa), ratD (-(xb - xa)), ratD (yb - ya), ratD (-(yb - ya))][((j : Int)).toNat]? = some (ratD (sdQ x0 y0 x1 y1 xb yb j - sdQ x0 y0 x1 y1 xa ya j)) := by
          have := hst j hj
          rw [Int.toNat_natCast, show [ratD (xb - xa), ratD (-(xb - xa)), ratD (yb - ya), ratD (-(yb - ya))] = [xb - xa, -(xb - xa), yb - ya, -(yb - ya)].map ratD from rfl, List.getElem?_map, this]; rfl
        have b3 := hf j
        have b4 := (ht j).sub (hf j)
        have hnext : rTo x0 y0 x1 y1 xa ya xb yb (j + 1) = (if rcB (sdQ x0 y0 x1 y1 xa ya j) (sdQ x0 y0 x1 y1 xb yb j - sdQ x0 y0 x1 y1 xa ya j) lo hi = true then some (rcL (sdQ x0 y0 x1 y1 xa ya j) (sdQ x0 y0 x1 y1 xb yb j - sdQ x0 y0 x1 y1 xa ya j) lo, rcH (sdQ x0 y0 x1 y1 xa ya j) (sdQ x0 y0 x1 y1 xb yb j - sdQ x0 y0 x1 y1 xa ya j) hi) else none) := by
          show (rTo x0 y0 x1 y1 xa ya xb yb j).bind _ = _
          rw [hr]; rfl
        generalize sdQ x0 y0 x1 y1 xb yb j - sdQ x0 y0 x1 y1 xa ya j = st at *
        generalize sdQ x0 y0 x1 y1 xa ya j = f at *
        conv => whnf
        refine idx_intro _ g1 (by omega) u3 ?_
        conv => whnf
        refine idx_intro _ g2 (by omega) u4 ?_
        conv => whnf
        refine callv_data (rcut_c (.mk b1 (by omega)) (.mk b2 (by omega)) (.mk b3 (by omega)) (.mk b4 (by omega)) (.mk b3.neg (by omega)) (.mk (b3.neg.div b4) (by omega))) ?_
        conv => whnf
        refine safe_intro (by kernel_rfl) ?_
        conv => whnf
        refine sd_d (by omega) ?_
        conv => whnf
        refine ⟨(j + 1, (rcL f st lo, rcH f st hi), rcB f st lo hi), ⟨by simp only; omega, ?_⟩, by simp only; omega, ?_⟩
        · simp only
          cases hz : rcB f st lo hi with
          | true => exact .inl ⟨rfl, by rw [hnext, if_pos hz]⟩
          | false =>
            refine .inr ⟨rfl, ?_⟩
            have h0 : rTo x0 y0 x1 y1 xa ya xb yb (j + 1) = none := by rw [hnext, if_neg (by rw [hz]; simp)]
            have := rTo_none h0 (3 - j)
            rwa [show j + 1 + (3 - j) = 4 by omega] at this
        · refine weak_r ?_ ?_ <;> repeat' (first | exact trivial | exact rfl | refine And.intro ?_ ?_)
      · have hj : j = 4 := by omega
        subst hj
        have hV : clV x0 y0 x1 y1 xa ya xb yb = (xa + (xb - xa) * lo, ya + (yb - ya) * lo, xa + (xb - xa) * hi, ya + (yb - ya) * hi) := by
          unfold clV; rw [l1]; simp only; rw [if_neg (by grind)]
        have hB : clB x0 y0 x1 y1 xa ya xb yb = true := by
          unfold clB; rw [l1]; simp only; rw [decide_eq_false (by grind)]; rfl
        rw [hV, hB]
        have w1 := hb.1.sub ha.1
        have w2 := hb.2.sub ha.2
        conv => whnf
        refine callv_data (fat_c qa qb qc qd (.mk b1 (by omega)) hdx hdy (.mk (w1.mul b1) (by omega)) (.mk (w2.mul b1) (by omega))) ?_
        conv => whnf
        refine callv_data (fat_c qa qb qc qd (.mk b2 (by omega)) hdx hdy (.mk (w1.mul b2) (by omega)) (.mk (w2.mul b2) (by omega))) ?_
        conv => whnf
        refine safe_intro (by kernel_rfl) ?_
        conv => whnf
        exact ⟨⟨rfl, rfl, rfl, rfl, rfl, rfl, rfl, rfl, rfl, rfl, rfl, rfl, trivial⟩, rfl, rfl, trivial⟩
    · have hnone := (law 4).2 hr
      unfold fcSt
      have hV : clV x0 y0 x1 y1 xa ya xb yb = (0, 0, 0, 0) := by
        unfold clV
        rcases hnone with h | ⟨p, h, hp⟩
        · rw [h]
        · rw [h]; simp only; rw [if_pos hp]
      have hB : clB x0 y0 x1 y1 xa ya xb yb = false := by
        unfold clB
        rcases hnone with h | ⟨p, h, hp⟩
        · rw [h]
        · rw [h]; simp only; rw [decide_eq_true hp]; rfl
      rw [hV, hB]
      conv => whnf
      refine cond_d (fun g => ?_) (fun g => ?_)
      · conv => whnf
        refine ⟨?_, rfl, rfl, trivial⟩
        conv => whnf
        exact ⟨rneg_zero.symm, rnum_zero.symm, rden_zero.symm, rneg_zero.symm, rnum_zero.symm, rden_zero.symm, rneg_zero.symm, rnum_zero.symm, rden_zero.symm, rneg_zero.symm, rnum_zero.symm, rden_zero.symm, trivial⟩
      · conv => whnf
        refine ⟨?_, rfl, rfl, trivial⟩
        conv => whnf
        exact ⟨rneg_zero.symm, rnum_zero.symm, rden_zero.symm, rneg_zero.symm, rnum_zero.symm, rden_zero.symm, rneg_zero.symm, rnum_zero.symm, rden_zero.symm, rneg_zero.symm, rnum_zero.symm, rden_zero.symm, trivial⟩
end Go.Nv
end
