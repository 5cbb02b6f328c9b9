import Derived.Test.YtdjbkccoofcnjaaGreatNvD4
import Derived.Test.YtdjbkccoofcnjaaGreatNvC6
set_option linter.all false
set_option linter.unusedVariables false
set_option linter.unusedSimpArgs false
section
namespace Go.Nv
open Go.Proofs Nw
set_option maxRecDepth 100000
set_option linter.unusedVariables false
set_option linter.unusedSimpArgs false
theorem rsm_t (r : RD) (h1 : r.num.size ≤ 3) (h2 : r.den.size ≤ 3) : Fun Tryz.prog 172 [rdD r] [i64 (iv r.neg r.num), i64 (dv r.den : Nat), .v (.bool true)] := by
  have c1 := rnumber_c r.num (by omega)
  have c2 := rnumber_c r.den (by omega)
  have hb : bv r.num < 16777216 := by
    have a1 : bv r.num < 256 ^ r.num.size := bvl_lt _
    have a2 := Nat.pow_le_pow_right (n := 256) (by omega) h1
    have a3 : (256 : Nat) ^ 3 = 16777216 := rfl
    omega
  unfold dv iv
  refine fun_of_go (fun t => false) mixed tOk Tryz.func172 rfl rfl ?_
  conv => whnf
  refine cond_df (by omega) ?_
  conv => whnf
  refine cond_df (by omega) ?_
  conv => whnf
  refine callv_data c1 ?_
  conv => whnf
  refine callv_data c2 ?_
  conv => whnf
  refine safe_intro (by kernel_rfl) ?_
  conv => whnf
  refine cond_d (fun g => ?_) (fun g => ?_)
  · conv => whnf
    refine cond_intro (fun g2 => ?_) (fun g2 => ?_)
    · conv => whnf
      refine sd_d (by omega) ?_
      conv => whnf
      refine ⟨?_, ?_, rfl, trivial⟩
      · conv => whnf
        rw [if_pos g2]; omega
      · conv => whnf
        rw [if_pos (show bv r.den = 0 by omega)]
        try rfl
    · conv => whnf
      refine ⟨?_, ?_, rfl, trivial⟩
      · conv => whnf
        rw [if_neg (by rw [g2]; simp)]
      · conv => whnf
        rw [if_pos (show bv r.den = 0 by omega)]
        try rfl
  · conv => whnf
    refine cond_intro (fun g2 => ?_) (fun g2 => ?_)
    · conv => whnf
      refine sd_d (by omega) ?_
      conv => whnf
      refine ⟨?_, ?_, rfl, trivial⟩
      · conv => whnf
        rw [if_pos g2]; omega
      · conv => whnf
        rw [if_neg (show ¬ bv r.den = 0 by omega)]
        try rfl
    · conv => whnf
      refine ⟨?_, ?_, rfl, trivial⟩
      · conv => whnf
        rw [if_neg (by rw [g2]; simp)]
      · conv => whnf
        rw [if_neg (show ¬ bv r.den = 0 by omega)]
        try rfl
theorem rsm_f (r : RD) (h : ¬ (r.num.size ≤ 3 ∧ r.den.size ≤ 3)) : Fun Tryz.prog 172 [rdD r] [i64 0, i64 0, .v (.bool false)] := by
  refine fun_of_go (fun t => false) mixed tOk Tryz.func172 rfl rfl ?_
  conv => whnf
  refine cond_d (fun g => ?_) (fun g => ?_)
  · conv => whnf
    exact ⟨rfl, rfl, rfl, trivial⟩
  · conv => whnf
    refine cond_d (fun g => ?_) (fun g => ?_)
    · conv => whnf
      exact ⟨rfl, rfl, rfl, trivial⟩
    · omega
theorem rpack_c (n d : Int) (hn : -36028797018963968 < n ∧ n < 36028797018963968) (hd : 0 < d ∧ d < 36028797018963968) : Fun Tryz.prog 173 [i64 n, i64 d] [ratD (mkRat n d.toNat)] := by
  obtain ⟨N, hN⟩ : ∃ N, N = n.natAbs := ⟨_, rfl⟩
  obtain ⟨M, hM⟩ : ∃ M : Nat, d = (M : Int) := ⟨d.toNat, by omega⟩
  subst hM
  rw [Int.toNat_natCast]
  have hd0 : M ≠ 0 := by omega
  obtain ⟨p1, p2⟩ := mkRat_parts n hd0
  have e2 : decide (n < 0) = rneg (mkRat n M) := by
    have hG : (0 : Int) < (Nat.gcd n.natAbs M : Nat) := by
      have := Nat.gcd_pos_of_pos_right n.natAbs (show 0 < M by omega); omega
    rw [rneg_eq, p1]
    by_cases hneg : n < 0
    · simp [hneg, Int.ediv_neg_of_neg_of_pos hneg hG]
    · have := Int.ediv_nonneg (show 0 ≤ n by omega) (Int.le_of_lt hG)
      simp [hneg]; omega
  have e1 : nb (n.natAbs / Nat.gcd n.natAbs M) = rnum (mkRat n M) := by
    rw [rnum_eq, p1, Int.natAbs_ediv_of_dvd (Int.ofNat_dvd_left.2 (Nat.gcd_dvd_left _ _))]; rfl
  have e3 := rden_eq (mkRat n M)
  rw [p2] at e3
  refine fun_of_go (fun t => false) mixed tOk Tryz.func173 rfl rfl ?_
  conv => whnf
  have ec : N = 0 → canon (mkRat n M) = ⟨false, emp, emp⟩ := fun h => by
    rw [show n = 0 by omega, Rat.zero_mkRat]; decide
  generalize mkRat n M = Q at *
  generalize hz : decide (n < 0) = z at *
  refine cond_b (fun g => ?_) (fun g => ?_)
  · conv => whnf
    have hneg : n < 0 := by rw [g] at hz; simpa using hz
    refine sd_d (by omega) ?_
    conv => whnf
    rw [show 0 - n = (n.natAbs : Int) by omega]
    rw [← hN] at e1 e3 ⊢
    conv => whnf
    refine cond_e (fun g0 => ?_) (fun g0 => ?_)
    · conv => whnf
      refine ⟨?_, trivial⟩
      rw [ratD_eq]
      conv => whnf
      rw [ec (by omega)]
      exact ⟨rfl, rfl, rfl, trivial⟩
    · conv => whnf
      refine loop_intro (fun t => false) (fun p : Nat × Nat => ⟨fr 41 [(0, .d (i64 (N : Int))), (1, .d (i64 (M : Int))), (4, .ptr 0 0 0), (5, .ptr 1 0 0), (6, .d (i64 (p.1 : Int))), (7, .d (i64 (p.2 : Int)))], [.box 27 [.d (.v (.bool false)), .d (.v (.string ⟨#[]⟩)), .d (.v (.string ⟨#[]⟩))], .box 27 [.d (.v (.bool z)), .d (.v (.string ⟨#[]⟩)), .d (.v (.string ⟨#[]⟩))]]⟩) (fun p => Nat.gcd p.1 p.2 = Nat.gcd N M ∧ p.1 < 36028797018963968 ∧ p.2 < 36028797018963968) (fun p => p.2) (N, M) mixed tOk ⟨rfl, by simp only; omega, by simp only; omega⟩ ?_ ?_
      · refine weak_r ⟨⟨rfl, rfl, rfl, rfl, trivial⟩, ⟨rfl, ?_, rfl, rfl, trivial⟩, trivial⟩ ⟨rfl, rfl, rfl, rfl, rfl, rfl, trivial⟩
        conv => whnf
        rw [bz_eq]
      · rintro ⟨a, b⟩ ⟨j1, j2, j3⟩
        simp only at j1 j2 j3 ⊢
        conv => whnf
        refine cond_d (fun g1 => ?_) (fun g1 => ?_)
        · conv => whnf
          have r1 : Int.tmod (a : Int) (b : Int) = ((a % b : Nat) : Int) := rfl
          rw [r1]
          have r2 := Nat.mod_lt a (show 0 < b by omega)
          refine sd_d (by omega) ?_
          conv => whnf
          refine safe_intro (by kernel_rfl) ?_
          conv => whnf
          refine ⟨(b, a % b), ⟨by simp only; rw [Nat.gcd_comm, ← Nat.gcd_rec, Nat.gcd_comm]; exact j1, by simp only; omega, by simp only; omega⟩, by simp only; omega, weak_r ⟨⟨rfl, rfl, rfl, rfl, trivial⟩, ⟨rfl, rfl, rfl, rfl, trivial⟩, trivial⟩ ⟨rfl, rfl, rfl, rfl, rfl, rfl, trivial⟩⟩
        · have b0 : b = 0 := by omega
          subst b0
          rw [Nat.gcd_zero_right] at j1
          rw [← j1] at e1 e3
          have ha : a ≠ 0 := by
            rw [j1]; intro h; exact hd0 (Nat.gcd_eq_zero_iff.1 h).2
          have q1 : Int.tdiv (N : Int) (a : Int) = ((N / a : Nat) : Int) := rfl
          have q2 : Int.tdiv (M : Int) (a : Int) = ((M / a : Nat) : Int) := rfl
          have q3 := Nat.div_le_self N a
          have q4 := Nat.div_le_self M a
          have q5 : 1 ≤ M / a := by
            rw [j1]; exact Nat.div_pos (Nat.le_of_dvd (by omega) (Nat.gcd_dvd_right _ _)) (Nat.gcd_pos_of_pos_right _ (by omega))
          have q6 : (0 : Int) ≤ ((N / a : Nat) : Int) := Int.natCast_nonneg _
          conv => whnf
          rw [q1]
          refine sd_dd (by omega) (by omega) ?_
          conv => whnf
          refine call_data rfl rfl (rdigits_c (N / a) (by omega)) ?_
          conv => whnf
          rw [q2]
          generalize N / a = u at *
          generalize M / a = v at *
          refine sd_dd (by omega) (by omega) ?_
          conv => whnf
          refine cond_d (fun g4 => ?_) (fun g4 => ?_)
          · conv => whnf
            rw [q2]
            refine sd_dd (by omega) (by omega) ?_
            conv => whnf
            refine call_data rfl rfl (rdigits_c v (by omega)) ?_
            conv => whnf
            rw [if_neg (by omega)] at e3
            refine ⟨?_, trivial⟩
            conv => whnf
            exact ⟨e2, e1, e3.symm, trivial⟩
          · conv => whnf
            rw [if_pos (by omega)] at e3
            refine ⟨?_, trivial⟩
            conv => whnf
            exact ⟨e2, e1, e3.symm, trivial⟩
  · have hpos : 0 ≤ n := by rw [g] at hz; simpa using hz
    rw [← hN] at e1 e3
    have hnn : n = (N : Int) := by omega
    rw [hnn]
    conv => whnf
    refine cond_e (fun g0 => ?_) (fun g0 => ?_)
    · conv => whnf
      refine ⟨?_, trivial⟩
      rw [ratD_eq]
      conv => whnf
      rw [ec (by omega)]
      exact ⟨rfl, rfl, rfl, trivial⟩
    · conv => whnf
      refine loop_intro (fun t => false) (fun p : Nat × Nat => ⟨fr 41 [(0, .d (i64 (N : Int))), (1, .d (i64 (M : Int))), (4, .ptr 0 0 0), (5, .ptr 1 0 0), (6, .d (i64 (p.1 : Int))), (7, .d (i64 (p.2 : Int)))], [.box 27 [.d (.v (.bool false)), .d (.v (.string ⟨#[]⟩)), .d (.v (.string ⟨#[]⟩))], .box 27 [.d (.v (.bool z)), .d (.v (.string ⟨#[]⟩)), .d (.v (.string ⟨#[]⟩))]]⟩) (fun p => Nat.gcd p.1 p.2 = Nat.gcd N M ∧ p.1 < 36028797018963968 ∧ p.2 < 36028797018963968) (fun p => p.2) (N, M) mixed tOk ⟨rfl, by simp only; omega, by simp only; omega⟩ ?_ ?_
      · refine weak_r ⟨⟨rfl, rfl, rfl, rfl, trivial⟩, ⟨rfl, ?_, rfl, rfl, trivial⟩, trivial⟩ ⟨rfl, rfl, rfl, rfl, rfl, rfl, trivial⟩
        conv => whnf
        rw [bz_eq]
      · rintro ⟨a, b⟩ ⟨j1, j2, j3⟩
        simp only at j1 j2 j3 ⊢
        conv => whnf
        refine cond_d (fun g1 => ?_) (fun g1 => ?_)
        · conv => whnf
          have r1 : Int.tmod (a : Int) (b : Int) = ((a % b : Nat) : Int) := rfl
          rw [r1]
          have r2 := Nat.mod_lt a (show 0 < b by omega)
          refine sd_d (by omega) ?_
          conv => whnf
          refine safe_intro (by kernel_rfl) ?_
          conv => whnf
          refine ⟨(b, a % b), ⟨by simp only; rw [Nat.gcd_comm, ← Nat.gcd_rec, Nat.gcd_comm]; exact j1, by simp only; omega, by simp only; omega⟩, by simp only; omega, weak_r ⟨⟨rfl, rfl, rfl, rfl, trivial⟩, ⟨rfl, rfl, rfl, rfl, trivial⟩, trivial⟩ ⟨rfl, rfl, rfl, rfl, rfl, rfl, trivial⟩⟩
        · have b0 : b = 0 := by omega
          subst b0
          rw [Nat.gcd_zero_right] at j1
          rw [← j1] at e1 e3
          have ha : a ≠ 0 := by
            rw [j1]; intro h; exact hd0 (Nat.gcd_eq_zero_iff.1 h).2
          have q1 : Int.tdiv (N : Int) (a : Int) = ((N / a : Nat) : Int) := rfl
          have q2 : Int.tdiv (M : Int) (a : Int) = ((M / a : Nat) : Int) := rfl
          have q3 := Nat.div_le_self N a
          have q4 := Nat.div_le_self M a
          have q5 : 1 ≤ M / a := by
            rw [j1]; exact Nat.div_pos (Nat.le_of_dvd (by omega) (Nat.gcd_dvd_right _ _)) (Nat.gcd_pos_of_pos_right _ (by omega))
          have q6 : (0 : Int) ≤ ((N / a : Nat) : Int) := Int.natCast_nonneg _
          conv => whnf
          rw [q1]
          refine sd_dd (by omega) (by omega) ?_
          conv => whnf
          refine call_data rfl rfl (rdigits_c (N / a) (by omega)) ?_
          conv => whnf
          rw [q2]
          generalize N / a = u at *
          generalize M / a = v at *
          refine sd_dd (by omega) (by omega) ?_
          conv => whnf
          refine cond_d (fun g4 => ?_) (fun g4 => ?_)
          · conv => whnf
            rw [q2]
            refine sd_dd (by omega) (by omega) ?_
            conv => whnf
            refine call_data rfl rfl (rdigits_c v (by omega)) ?_
            conv => whnf
            rw [if_neg (by omega)] at e3
            refine ⟨?_, trivial⟩
            conv => whnf
            exact ⟨e2, e1, e3.symm, trivial⟩
          · conv => whnf
            rw [if_pos (by omega)] at e3
            refine ⟨?_, trivial⟩
            conv => whnf
            exact ⟨e2, e1, e3.symm, trivial⟩
end Go.Nv
end
section
namespace Go.Nv
open Go.Proofs Nw
set_option maxRecDepth 100000
set_option linter.unusedVariables false
set_option linter.unusedSimpArgs false
theorem rnorm_c (n : Bool) (s : ByteArray) (hs : s.size < 400000000000) : Fun Tryz.prog 176 [intD n s, intD false ⟨#[]⟩] [zD (sg n (bv s))] := by
  have := radd_c n false s ⟨#[]⟩ hs (by decide)
  rwa [bv_nil, show sg false 0 = 0 from rfl, Int.add_zero] at this
theorem rparts_c (r : RD) (h1 : r.num.size < 400000000000) (h2 : r.den.size < 400000000000) : Fun Tryz.prog 174 [rdD r] [zD (iv r.neg r.num), zD (dv r.den : Nat)] := by
  have c1 := rnorm_c r.neg r.num h1
  have c2 := rnorm_c false r.den h2
  rw [show sg false (bv r.den) = ((bv r.den : Nat) : Int) from rfl, zD_nat] at c2
  rw [zD_nat, iv_sg]
  refine fun_of_go (fun t => false) mixed tOk Tryz.func174 rfl rfl ?_
  conv => whnf
  refine call_data rfl rfl c1 ?_
  conv => whnf
  refine call_data rfl rfl c2 ?_
  conv => whnf
  refine cond_b (fun g => ?_) (fun g => ?_)
  · rw [nb_ne, decide_eq_true_eq] at g
    conv => whnf
    refine call_data rfl rfl (rof_n 1 (by omega)) ?_
    conv => whnf
    refine safe_intro (by kernel_rfl) ?_
    conv => whnf
    unfold dv
    rw [if_pos g]
    exact ⟨⟨rfl, rfl, trivial⟩, ⟨rfl, rfl, trivial⟩, trivial⟩
  · rw [nb_ne, decide_eq_false_iff_not] at g
    conv => whnf
    refine safe_intro (by kernel_rfl) ?_
    conv => whnf
    unfold dv
    rw [if_neg g]
    exact ⟨⟨rfl, rfl, trivial⟩, ⟨rfl, rfl, trivial⟩, trivial⟩
theorem nb_one (v : Nat) : (nb v == (⟨#[1]⟩ : ByteArray)) = decide (v = 1) := by
  rw [byt_beq, decide_eq_decide, show (⟨#[1]⟩ : ByteArray) = nb 1 from by decide]
  exact ⟨nb_inj, fun h => by rw [h]⟩
theorem rreduce_c (x : Int) (b : Nat) (hx : (nb x.natAbs).size < 200000000000) (hb : (nb b).size < 200000000000) (h0 : b ≠ 0) : Fun Tryz.prog 175 [zD x, zD (b : Int)] [ratD (mkRat x b)] := by
  have c1 := rnorm_c (ng x) (nb x.natAbs) (by omega)
  have c2 := rnorm_c false (nb b) (by omega)
  rw [bv_nb, sg_ng] at c1
  rw [bv_nb, show sg false b = (b : Int) from rfl, zD_nat] at c2
  have c3 := rgcd_c (ng x) false (nb x.natAbs) (nb b) (by omega) (by omega) (by rw [bv_nb]; exact h0)
  rw [bv_nb, bv_nb] at c3
  obtain ⟨p1, p2⟩ := mkRat_parts x h0
  have hG0 : Nat.gcd x.natAbs b ≠ 0 := fun h => h0 (Nat.gcd_eq_zero_iff.1 h).2
  have hGb : Nat.gcd x.natAbs b ≤ b := Nat.le_of_dvd (by omega) (Nat.gcd_dvd_right _ _)
  have ec : x = 0 → canon (mkRat x b) = ⟨false, emp, emp⟩ := fun h => by
    rw [h, Rat.zero_mkRat]; decide
  have e1 := rnum_eq (mkRat x b)
  have e2 := rneg_eq (mkRat x b)
  have e3 := rden_eq (mkRat x b)
  rw [p1] at e1 e2
  rw [p2] at e3
  generalize Nat.gcd x.natAbs b = G at *
  have c4 := rdiv_z x G (by omega) (by have := nb_mono hGb; omega) hG0
  have c5 := rdiv_z (b : Int) G (by rw [Int.natAbs_natCast]; omega) (by have := nb_mono hGb; omega) hG0
  rw [zD_nat] at c3 c4 c5
  rw [zD_nat] at c5
  rw [show (b : Int) / (G : Int) = ((b / G : Nat) : Int) from rfl, zD_nat] at c5
  rw [zD_nat]
  generalize mkRat x b = Q at *
  refine fun_of_go (fun t => t == 2 || t == 3) mixed tOk Tryz.func175 rfl rfl ?_
  conv => whnf
  refine callv_data c1 ?_
  conv => whnf
  refine callv_data c2 ?_
  conv => whnf
  refine safe_intro (by kernel_rfl) ?_
  conv => whnf
  refine cond_b (fun g => ?_) (fun g => ?_)
  · rw [nb_ne, decide_eq_true_eq] at g
    conv => whnf
    refine ⟨?_, trivial⟩
    rw [ratD_eq]
    conv => whnf
    rw [ec (by omega)]
    exact ⟨rfl, rfl, rfl, trivial⟩
  · rw [nb_ne, decide_eq_false_iff_not] at g
    conv => whnf
    refine call_data rfl rfl c3 ?_
    conv => whnf
    refine call_data rfl rfl c4 ?_
    conv => whnf
    refine call_data rfl rfl c5 ?_
    conv => whnf
    generalize x / (G : Int) = u at *
    generalize b / G = v at *
    have f2 : ng u = rneg Q := by rw [ng_eq]; exact e2.symm
    refine cond_b (fun g2 => ?_) (fun g2 => ?_)
    · rw [nb_one] at g2
      rw [if_neg (by simpa using g2)] at e3
      conv => whnf
      refine ⟨?_, trivial⟩
      conv => whnf
      exact ⟨f2, e1.symm, e3.symm, trivial⟩
    · rw [nb_one] at g2
      rw [if_pos (by simpa using g2)] at e3
      conv => whnf
      refine ⟨?_, trivial⟩
      conv => whnf
      exact ⟨f2, e1.symm, e3.symm, trivial⟩
end Go.Nv
end
section
namespace Go.Nv
open Go.Proofs Nw
set_option maxRecDepth 100000
set_option linter.unusedVariables false
set_option linter.unusedSimpArgs false
theorem nb_mul_sz (a b : Nat) : (nb (a * b)).size ≤ (nb a).size + (nb b).size := by
  have h1 := bvl_lt (nbl a)
  have h2 := bvl_lt (nbl b)
  rw [bvl_nbl] at h1 h2
  have := Nat.mul_lt_mul'' h1 h2
  rw [← Nat.pow_add] at this
  exact nbl_length_le this
theorem nb_add_sz (a b k : Nat) (ha : (nb a).size ≤ k) (hb : (nb b).size ≤ k) : (nb (a + b)).size ≤ k + 1 := by
  have h1 := bvl_lt (nbl a)
  have h2 := bvl_lt (nbl b)
  rw [bvl_nbl] at h1 h2
  have h3 := Nat.pow_le_pow_right (n := 256) (by omega) (show (nbl a).length ≤ k from ha)
  have h4 := Nat.pow_le_pow_right (n := 256) (by omega) (show (nbl b).length ≤ k from hb)
  exact nbl_length_le (by rw [Nat.pow_succ]; omega)
theorem iv_sz (r : RD) : (nb (iv r.neg r.num).natAbs).size ≤ r.num.size := abs_sg r.neg r.num
theorem dv_sz (r : RD) : (nb (dv r.den)).size ≤ r.den.size ∨ (nb (dv r.den)).size ≤ 1 := by
  unfold dv
  split
  · exact .inr (by decide)
  · exact .inl (nb_size_le r.den)
theorem rmul_z (x y : Int) (hx : (nb x.natAbs).size < 400000000000) (hy : (nb y.natAbs).size < 400000000000) : Fun Tryz.prog 177 [zD x, zD y] [zD (x * y)] := by
  have := rmul_c (ng x) (ng y) (nb x.natAbs) (nb y.natAbs) hx hy
  rwa [bv_nb, bv_nb, sg_ng, sg_ng] at this
theorem rcmp_z (x y : Int) : Fun Tryz.prog 233 [zD x, zD y] [i64 (cmpZ x y)] := by
  have := rcmpI_c (ng x) (ng y) (nb x.natAbs) (nb y.natAbs)
  rwa [bv_nb, bv_nb, sg_ng, sg_ng] at this
theorem small_bd {r : RD} (h1 : r.num.size ≤ 3) (h2 : r.den.size ≤ 3) : -16777216 < iv r.neg r.num ∧ iv r.neg r.num < 16777216 ∧ 0 < dv r.den ∧ dv r.den < 16777216 := by
  have a1 : bv r.num < 256 ^ r.num.size := bvl_lt _
  have a2 := Nat.pow_le_pow_right (n := 256) (by omega) h1
  have b1 : bv r.den < 256 ^ r.den.size := bvl_lt _
  have b2 := Nat.pow_le_pow_right (n := 256) (by omega) h2
  have a3 : (256 : Nat) ^ 3 = 16777216 := rfl
  have := dv_pos r.den
  refine ⟨?_, ?_, this, ?_⟩
  · unfold iv; split <;> omega
  · unfold iv; split <;> omega
  · unfold dv; split <;> omega
theorem pbd {x y : Int} (h1 : x.natAbs < 16777216) (h2 : y.natAbs < 16777216) : -281474976710656 < x * y ∧ x * y < 281474976710656 := by
  have := Nat.mul_lt_mul'' h1 h2
  rw [← Int.natAbs_mul] at this
  omega
theorem val_mk (r : RD) : r.val = mkRat (iv r.neg r.num) (dv r.den) := rfl
set_option maxHeartbeats 2000000 in
theorem radd_r (r s : RD) (hr : Sz r) (hs : Sz s) : Fun Tryz.prog 87 [rdD r, rdD s] [ratD (r.val + s.val)] := by
  obtain ⟨r1, r2⟩ := hr
  obtain ⟨s1, s2⟩ := hs
  rw [val_mk, val_mk, Rat.mkRat_add_mkRat _ _ (by have := dv_pos r.den; omega) (by have := dv_pos s.den; omega)]
  have b1 := small_bd (r := r)
  have b2 := small_bd (r := s)
  have t1 := rsm_t r
  have t2 := rsm_t s
  have f1 := rsm_f r
  have f2 := rsm_f s
  have q1 := rparts_c r (by omega) (by omega)
  have q2 := rparts_c s (by omega) (by omega)
  have z1 := iv_sz r
  have z2 := iv_sz s
  have z3 := dv_sz r
  have z4 := dv_sz s
  have d1 := dv_pos r.den
  have d2 := dv_pos s.den
  generalize iv r.neg r.num = x at *
  generalize iv s.neg s.num = y at *
  generalize dv r.den = a at *
  generalize dv s.den = b at *
  have m1 := nb_mul_sz x.natAbs b
  have m2 := nb_mul_sz y.natAbs a
  have m3 := nb_mul_sz a b
  have e1 : (x * (b : Int)).natAbs = x.natAbs * b := by rw [Int.natAbs_mul, Int.natAbs_natCast]
  have e2 : (y * (a : Int)).natAbs = y.natAbs * a := by rw [Int.natAbs_mul, Int.natAbs_natCast]
  have m4 := nb_add_sz (x.natAbs * b) (y.natAbs * a) 199999999998 (by omega) (by omega)
  have m5 : (nb (x * (b : Int) + y * (a : Int)).natAbs).size ≤ 199999999999 := by
    have := nb_mono (show (x * (b : Int) + y * (a : Int)).natAbs ≤ x.natAbs * b + y.natAbs * a by omega)
    omega
  have w1 := rmul_z x (b : Int) (by omega) (by rw [Int.natAbs_natCast]; omega)
  have w2 := rmul_z y (a : Int) (by omega) (by rw [Int.natAbs_natCast]; omega)
  have w3 := radd_z (x * (b : Int)) (y * (a : Int)) (by rw [e1]; omega) (by rw [e2]; omega)
  have w4 := rmul_z (a : Int) (b : Int) (by rw [Int.natAbs_natCast]; omega) (by rw [Int.natAbs_natCast]; omega)
  rw [show (a : Int) * (b : Int) = ((a * b : Nat) : Int) by push_cast; rfl] at w4
  have w5 := rreduce_c (x * (b : Int) + y * (a : Int)) (a * b) (by omega) (by omega) (by have := Nat.mul_pos d1 d2; omega)
  refine fun_of_go (fun t => false) mixed tOk Tryz.func87 rfl rfl ?_
  conv => whnf
  by_cases hA : r.num.size ≤ 3 ∧ r.den.size ≤ 3
  · refine call_data rfl rfl (t1 hA.1 hA.2) ?_
    conv => whnf
    by_cases hB : s.num.size ≤ 3 ∧ s.den.size ≤ 3
    · refine call_data rfl rfl (t2 hB.1 hB.2) ?_
      conv => whnf
      obtain ⟨i1, i2, i3, i4⟩ := b1 hA.1 hA.2
      obtain ⟨j1, j2, j3, j4⟩ := b2 hB.1 hB.2
      have k1 := pbd (x := x) (y := (b : Int)) (by omega) (by omega)
      have k2 := pbd (x := y) (y := (a : Int)) (by omega) (by omega)
      have k3 := pbd (x := (a : Int)) (y := (b : Int)) (by omega) (by omega)
      have k4 := Nat.mul_pos d1 d2
      have k5 : (a : Int) * (b : Int) = ((a * b : Nat) : Int) := by push_cast; rfl
      refine sd_d (by omega) ?_
      conv => whnf
      refine sd_d (by omega) ?_
      conv => whnf
      refine sd_d (by omega) ?_
      conv => whnf
      refine sd_d (by omega) ?_
      conv => whnf
      rw [k5] at k3 ⊢
      have pk := rpack_c (x * (b : Int) + y * (a : Int)) ((a * b : Nat) : Int) (by omega) (by omega)
      rw [Int.toNat_natCast] at pk
      refine call_data rfl rfl pk ?_
      conv => whnf
      exact ⟨⟨rfl, rfl, rfl, trivial⟩, trivial⟩
    · refine call_data rfl rfl (f2 hB) ?_
      conv => whnf
      refine call_data rfl rfl q1 ?_
      conv => whnf
      refine call_data rfl rfl q2 ?_
      conv => whnf
      refine callv_data w1 ?_
      conv => whnf
      refine callv_data w2 ?_
      conv => whnf
      refine callv_data w3 ?_
      conv => whnf
      refine callv_data w4 ?_
      conv => whnf
      refine callv_data w5 ?_
      conv => whnf
      refine safe_intro (by kernel_rfl) ?_
      conv => whnf
      exact ⟨⟨rfl, rfl, rfl, trivial⟩, trivial⟩
  · refine call_data rfl rfl (f1 hA) ?_
    conv => whnf
    by_cases hB : s.num.size ≤ 3 ∧ s.den.size ≤ 3
    · refine call_data rfl rfl (t2 hB.1 hB.2) ?_
      conv => whnf
      refine call_data rfl rfl q1 ?_
      conv => whnf
      refine call_data rfl rfl q2 ?_
      conv => whnf
      refine callv_data w1 ?_
      conv => whnf
      refine callv_data w2 ?_
      conv => whnf
      refine callv_data w3 ?_
      conv => whnf
      refine callv_data w4 ?_
      conv => whnf
      refine callv_data w5 ?_
      conv => whnf
      refine safe_intro (by kernel_rfl) ?_
      conv => whnf
      exact ⟨⟨rfl, rfl, rfl, trivial⟩, trivial⟩
    · refine call_data rfl rfl (f2 hB) ?_
      conv => whnf
      refine call_data rfl rfl q1 ?_
      conv => whnf
      refine call_data rfl rfl q2 ?_
      conv => whnf
      refine callv_data w1 ?_
      conv => whnf
      refine callv_data w2 ?_
      conv => whnf
      refine callv_data w3 ?_
      conv => whnf
      refine callv_data w4 ?_
      conv => whnf
      refine callv_data w5 ?_
      conv => whnf
      refine safe_intro (by kernel_rfl) ?_
      conv => whnf
      exact ⟨⟨rfl, rfl, rfl, trivial⟩, trivial⟩
end Go.Nv
end
section
namespace Go.Nv
open Go.Proofs Nw
set_option maxRecDepth 100000
set_option linter.unusedVariables false
set_option linter.unusedSimpArgs false
theorem zcast (a : Nat) : (((a : Int)).natAbs) = a := Int.natAbs_natCast a
set_option maxHeartbeats 2000000 in
theorem rmul_r (r s : RD) (hr : Sz r) (hs : Sz s) : Fun Tryz.prog 181 [rdD r, rdD s] [ratD (r.val * s.val)] := by
  obtain ⟨r1, r2⟩ := hr
  obtain ⟨s1, s2⟩ := hs
  rw [val_mk, val_mk, Rat.mkRat_mul_mkRat]
  have b1 := small_bd (r := r)
  have b2 := small_bd (r := s)
  have t1 := rsm_t r
  have t2 := rsm_t s
  have f1 := rsm_f r
  have f2 := rsm_f s
  have q1 := rparts_c r (by omega) (by omega)
  have q2 := rparts_c s (by omega) (by omega)
  have z1 := iv_sz r
  have z2 := iv_sz s
  have z3 := dv_sz r
  have z4 := dv_sz s
  have d1 := dv_pos r.den
  have d2 := dv_pos s.den
  generalize iv r.neg r.num = x at *
  generalize iv s.neg s.num = y at *
  generalize dv r.den = a at *
  generalize dv s.den = b at *
  have m1 := nb_mul_sz x.natAbs y.natAbs
  have m3 := nb_mul_sz a b
  have e1 : (x * y).natAbs = x.natAbs * y.natAbs := Int.natAbs_mul x y
  have w1 := rmul_z x y (by omega) (by omega)
  have w4 := rmul_z (a : Int) (b : Int) (by rw [zcast]; omega) (by rw [zcast]; omega)
  rw [show (a : Int) * (b : Int) = ((a * b : Nat) : Int) by push_cast; rfl] at w4
  have w5 := rreduce_c (x * y) (a * b) (by rw [e1]; omega) (by omega) (by have := Nat.mul_pos d1 d2; omega)
  refine fun_of_go (fun t => false) mixed tOk Tryz.func181 rfl rfl ?_
  conv => whnf
  by_cases hA : r.num.size ≤ 3 ∧ r.den.size ≤ 3
  · refine call_data rfl rfl (t1 hA.1 hA.2) ?_
    conv => whnf
    by_cases hB : s.num.size ≤ 3 ∧ s.den.size ≤ 3
    · refine call_data rfl rfl (t2 hB.1 hB.2) ?_
      conv => whnf
      obtain ⟨i1, i2, i3, i4⟩ := b1 hA.1 hA.2
      obtain ⟨j1, j2, j3, j4⟩ := b2 hB.1 hB.2
      have k1 := pbd (x := x) (y := y) (by omega) (by omega)
      have k3 := pbd (x := (a : Int)) (y := (b : Int)) (by omega) (by omega)
      have k4 := Nat.mul_pos d1 d2
      have k5 : (a : Int) * (b : Int) = ((a * b : Nat) : Int) := by push_cast; rfl
      refine sd_d (by omega) ?_
      conv => whnf
      refine sd_d (by omega) ?_
      conv => whnf
      rw [k5] at k3 ⊢
      have pk := rpack_c (x * y) ((a * b : Nat) : Int) (by omega) (by omega)
      rw [Int.toNat_natCast] at pk
      refine call_data rfl rfl pk ?_
      conv => whnf
      exact ⟨⟨rfl, rfl, rfl, trivial⟩, trivial⟩
    · refine call_data rfl rfl (f2 hB) ?_
      conv => whnf
      refine call_data rfl rfl q1 ?_
      conv => whnf
      refine call_data rfl rfl q2 ?_
      conv => whnf
      refine callv_data w1 ?_
      conv => whnf
      refine callv_data w4 ?_
      conv => whnf
      refine callv_data w5 ?_
      conv => whnf
      refine safe_intro (by kernel_rfl) ?_
      conv => whnf
      exact ⟨⟨rfl, rfl, rfl, trivial⟩, trivial⟩
  · refine call_data rfl rfl (f1 hA) ?_
    conv => whnf
    by_cases hB : s.num.size ≤ 3 ∧ s.den.size ≤ 3
    · refine call_data rfl rfl (t2 hB.1 hB.2) ?_
      conv => whnf
      refine call_data rfl rfl q1 ?_
      conv => whnf
      refine call_data rfl rfl q2 ?_
      conv => whnf
      refine callv_data w1 ?_
      conv => whnf
      refine callv_data w4 ?_
      conv => whnf
      refine callv_data w5 ?_
      conv => whnf
      refine safe_intro (by kernel_rfl) ?_
      conv => whnf
      exact ⟨⟨rfl, rfl, rfl, trivial⟩, trivial⟩
    · refine call_data rfl rfl (f2 hB) ?_
      conv => whnf
      refine call_data rfl rfl q1 ?_
      conv => whnf
      refine call_data rfl rfl q2 ?_
      conv => whnf
      refine callv_data w1 ?_
      conv => whnf
      refine callv_data w4 ?_
      conv => whnf
      refine callv_data w5 ?_
      conv => whnf
      refine safe_intro (by kernel_rfl) ?_
      conv => whnf
      exact ⟨⟨rfl, rfl, rfl, trivial⟩, trivial⟩
theorem cmp_mk (r s : RD) : cmpI r.val s.val = cmpZ (iv r.neg r.num * dv s.den) (iv s.neg s.num * dv r.den) := cmp_val r s
set_option maxHeartbeats 2000000 in
theorem rcmp_r (r s : RD) (hr : Sz r) (hs : Sz s) : Fun Tryz.prog 148 [rdD r, rdD s] [i64 (cmpI r.val s.val)] := by
  obtain ⟨r1, r2⟩ := hr
  obtain ⟨s1, s2⟩ := hs
  rw [cmp_mk]
  have b1 := small_bd (r := r)
  have b2 := small_bd (r := s)
  have t1 := rsm_t r
  have t2 := rsm_t s
  have f1 := rsm_f r
  have f2 := rsm_f s
  have q1 := rparts_c r (by omega) (by omega)
  have q2 := rparts_c s (by omega) (by omega)
  have z1 := iv_sz r
  have z2 := iv_sz s
  have z3 := dv_sz r
  have z4 := dv_sz s
  have d1 := dv_pos r.den
  have d2 := dv_pos s.den
  generalize iv r.neg r.num = x at *
  generalize iv s.neg s.num = y at *
  generalize dv r.den = a at *
  generalize dv s.den = b at *
  have m1 := nb_mul_sz x.natAbs b
  have m2 := nb_mul_sz y.natAbs a
  have w1 := rmul_z x (b : Int) (by omega) (by rw [zcast]; omega)
  have w2 := rmul_z y (a : Int) (by omega) (by rw [zcast]; omega)
  have w3 := rcmp_z (x * (b : Int)) (y * (a : Int))
  refine fun_of_go (fun t => false) mixed tOk Tryz.func148 rfl rfl ?_
  conv => whnf
  by_cases hA : r.num.size ≤ 3 ∧ r.den.size ≤ 3
  · refine call_data rfl rfl (t1 hA.1 hA.2) ?_
    conv => whnf
    by_cases hB : s.num.size ≤ 3 ∧ s.den.size ≤ 3
    · refine call_data rfl rfl (t2 hB.1 hB.2) ?_
      conv => whnf
      obtain ⟨i1, i2, i3, i4⟩ := b1 hA.1 hA.2
      obtain ⟨j1, j2, j3, j4⟩ := b2 hB.1 hB.2
      have k1 := pbd (x := x) (y := (b : Int)) (by omega) (by omega)
      have k2 := pbd (x := y) (y := (a : Int)) (by omega) (by omega)
      refine sd_d (by omega) ?_
      conv => whnf
      refine sd_d (by omega) ?_
      conv => whnf
      unfold cmpZ
      refine cond_d (fun g => ?_) (fun g => ?_)
      · conv => whnf
        refine ⟨?_, trivial⟩
        conv => whnf
        rw [if_pos g]
      · conv => whnf
        refine sd_d (by omega) ?_
        conv => whnf
        refine sd_d (by omega) ?_
        conv => whnf
        refine cond_d (fun g2 => ?_) (fun g2 => ?_)
        · conv => whnf
          refine ⟨?_, trivial⟩
          conv => whnf
          rw [if_neg g, if_pos (by omega)]
        · conv => whnf
          refine ⟨?_, trivial⟩
          conv => whnf
          rw [if_neg g, if_neg (by omega)]
    · refine call_data rfl rfl (f2 hB) ?_
      conv => whnf
      refine call_data rfl rfl q1 ?_
      conv => whnf
      refine call_data rfl rfl q2 ?_
      conv => whnf
      refine callv_data w1 ?_
      conv => whnf
      refine callv_data w2 ?_
      conv => whnf
      refine callv_data w3 ?_
      conv => whnf
      refine safe_intro (by kernel_rfl) ?_
      conv => whnf
      exact ⟨rfl, trivial⟩
  · refine call_data rfl rfl (f1 hA) ?_
    conv => whnf
    by_cases hB : s.num.size ≤ 3 ∧ s.den.size ≤ 3
    · refine call_data rfl rfl (t2 hB.1 hB.2) ?_
      conv => whnf
      refine call_data rfl rfl q1 ?_
      conv => whnf
      refine call_data rfl rfl q2 ?_
      conv => whnf
      refine callv_data w1 ?_
      conv => whnf
      refine callv_data w2 ?_
      conv => whnf
      refine callv_data w3 ?_
      conv => whnf
      refine safe_intro (by kernel_rfl) ?_
      conv => whnf
      exact ⟨rfl, trivial⟩
    · refine call_data rfl rfl (f2 hB) ?_
      conv => whnf
      refine call_data rfl rfl q1 ?_
      conv => whnf
      refine call_data rfl rfl q2 ?_
      conv => whnf
      refine callv_data w1 ?_
      conv => whnf
      refine callv_data w2 ?_
      conv => whnf
      refine callv_data w3 ?_
      conv => whnf
      refine safe_intro (by kernel_rfl) ?_
      conv => whnf
      exact ⟨rfl, trivial⟩
end Go.Nv
end
section
namespace Go.Nv
open Go.Proofs Nw
set_option maxRecDepth 100000
set_option linter.unusedVariables false
set_option linter.unusedSimpArgs false
theorem neg_val (s : RD) : (⟨!s.neg, s.num, s.den⟩ : RD).val = - s.val := by
  rw [val_eq, val_eq, Rat.neg_mkRat]
  congr 1
  unfold sg; cases s.neg <;> simp
theorem rsub_r (r s : RD) (hr : Sz r) (hs : Sz s) : Fun Tryz.prog 110 [rdD r, rdD s] [ratD (r.val - s.val)] := by
  have e : r.val + (⟨!s.neg, s.num, s.den⟩ : RD).val = r.val - s.val := by rw [neg_val, Rat.sub_eq_add_neg]
  refine fun_of_go (fun t => t == 3) mixed tOk Tryz.func110 rfl rfl ?_
  conv => whnf
  refine call_eq rfl rfl (radd_r r ⟨!s.neg, s.num, s.den⟩ hr hs) (by simp only [bnot_eq]; rfl) ?_
  conv => whnf
  rw [e]
  exact ⟨⟨rfl, rfl, rfl, trivial⟩, trivial⟩
theorem rsign_r (r : RD) (hr : Sz r) : Fun Tryz.prog 114 [rdD r] [i64 (sgnI r.val)] := by
  have h0 : Sz ⟨false, ⟨#[]⟩, ⟨#[]⟩⟩ := ⟨by decide, by decide⟩
  have c := rcmp_r r ⟨false, ⟨#[]⟩, ⟨#[]⟩⟩ hr h0
  have e : cmpI r.val (⟨false, ⟨#[]⟩, ⟨#[]⟩⟩ : RD).val = sgnI r.val := by
    have : (⟨false, ⟨#[]⟩, ⟨#[]⟩⟩ : RD).val = 0 := by decide
    rw [this, cmpI_eq, sgnI_eq]; rfl
  rw [e] at c
  refine fun_of_go (fun t => false) mixed tOk Tryz.func114 rfl rfl ?_
  conv => whnf
  refine call_data rfl rfl c ?_
  conv => whnf
  exact ⟨rfl, trivial⟩
theorem rnormal_r (r : RD) (hr : Sz r) : Fun Tryz.prog 197 [rdD r] [ratD r.val] := by
  obtain ⟨r1, r2⟩ := hr
  have z1 := iv_sz r
  have z3 := dv_sz r
  have d1 := dv_pos r.den
  refine fun_of_go (fun t => false) mixed tOk Tryz.func197 rfl rfl ?_
  conv => whnf
  by_cases hA : r.num.size ≤ 3 ∧ r.den.size ≤ 3
  · obtain ⟨i1, i2, i3, i4⟩ := small_bd hA.1 hA.2
    refine call_data rfl rfl (rsm_t r hA.1 hA.2) ?_
    conv => whnf
    have pk := rpack_c (iv r.neg r.num) (dv r.den : Nat) (by omega) (by omega)
    rw [Int.toNat_natCast] at pk
    refine call_data rfl rfl pk ?_
    conv => whnf
    exact ⟨⟨rfl, rfl, rfl, trivial⟩, trivial⟩
  · refine call_data rfl rfl (rsm_f r hA) ?_
    conv => whnf
    refine call_data rfl rfl (rparts_c r (by omega) (by omega)) ?_
    conv => whnf
    refine call_data rfl rfl (rreduce_c (iv r.neg r.num) (dv r.den) (by omega) (by omega) (by omega)) ?_
    conv => whnf
    exact ⟨⟨rfl, rfl, rfl, trivial⟩, trivial⟩
theorem eqDs_qr (q : Rat) (r : RD) : eqDs [.v (.bool (rneg q)), .v (.string (rnum q)), .v (.string (rden q))] [.v (.bool r.neg), .v (.string r.num), .v (.string r.den)] = decide (canon q = r) := by
  unfold rneg rnum rden; exact eqDs_rd (canon q) r
theorem rcheck_r (r : RD) (hr : Sz r) : Fun Tryz.prog 108 [rdD r] [i64 (okN r)] := by
  refine fun_of_go (fun t => false) mixed tOk Tryz.func108 rfl rfl ?_
  conv => whnf
  refine callv_data (rnormal_r r hr) ?_
  conv => whnf
  refine safe_intro (by kernel_rfl) ?_
  conv => whnf
  have e : eqDs [D.v (.bool (rneg r.val)), .v (.string (rnum r.val)), .v (.string (rden r.val))] (List.take ti27.cells (List.drop 0 (rdD r).cells)) = decide (canon r.val = r) := eqDs_qr _ r
  rw [e]
  refine cond_b (fun h => ?_) (fun h => ?_)
  · have h1 : ¬ canon r.val = r := by simpa using h
    conv => whnf
    refine ⟨?_, trivial⟩
    conv => whnf
    unfold okN; rw [if_neg h1]
  · have h1 : canon r.val = r := by simpa using h
    conv => whnf
    refine ⟨?_, trivial⟩
    conv => whnf
    unfold okN; rw [if_pos h1]
theorem rneg_r (r : RD) (hr : Sz r) : Fun Tryz.prog 150 [rdD r] [ratD (-r.val)] := by
  have c := rnormal_r ⟨!r.neg, r.num, r.den⟩ hr
  rw [neg_val] at c
  refine fun_of_go (fun t => t == 1) mixed tOk Tryz.func150 rfl rfl ?_
  conv => whnf
  refine call_eq rfl rfl c (by simp only [bnot_eq]; rfl) ?_
  conv => whnf
  exact ⟨⟨rfl, rfl, rfl, trivial⟩, trivial⟩
theorem rofr_c (n : Int) (h : -9223372036854775808 < n ∧ n ≤ 9223372036854775807) : Fun Tryz.prog 115 [i64 n] [ratD (n : Rat)] := by
  have c1 := rof_c n h
  have c2 := rof_c 1 (by omega)
  have hz : n.natAbs < 256 ^ 8 := by have : (256 : Nat) ^ 8 = 18446744073709551616 := rfl; omega
  have hs := nbl_length_le hz
  have c3 := rreduce_c n 1 (by rw [nb_size]; omega) (by decide) (by omega)
  have e : mkRat n 1 = (n : Rat) := by rw [Rat.mkRat_eq_div]; show (n : Rat) / ((1 : Nat) : Rat) = n; rw [Rat.natCast_ofNat]; grind
  rw [e] at c3
  refine fun_of_go (fun t => false) mixed tOk Tryz.func115 rfl rfl ?_
  conv => whnf
  refine call_data rfl rfl c1 ?_
  conv => whnf
  refine call_data rfl rfl c2 ?_
  conv => whnf
  refine call_data rfl rfl c3 ?_
  conv => whnf
  exact ⟨⟨rfl, rfl, rfl, trivial⟩, trivial⟩
theorem rratio_c (n : Int) (d : Nat) (h : -9223372036854775808 < n ∧ n ≤ 9223372036854775807) (hd : 0 < d ∧ d ≤ 9223372036854775807) : Fun Tryz.prog 202 [i64 n, i64 (d : Int)] [ratD (mkRat n d), i64 0] := by
  have c1 := rof_c n h
  have c2 := rof_c (d : Int) (by omega)
  have hz : n.natAbs < 256 ^ 8 := by have : (256 : Nat) ^ 8 = 18446744073709551616 := rfl; omega
  have hy : d < 256 ^ 8 := by have : (256 : Nat) ^ 8 = 18446744073709551616 := rfl; omega
  have hs := nbl_length_le hz
  have ht := nbl_length_le hy
  have c3 := rreduce_c n d (by rw [nb_size]; omega) (by rw [nb_size]; omega) (by omega)
  have c4 := rcmp_z (d : Int) 0
  rw [zD_zero, show cmpZ (d : Int) 0 = 1 by unfold cmpZ; rw [if_neg (by omega), if_pos (by omega)]] at c4
  have c5 : Fun Tryz.prog 279 [zD n, zD (d : Int)] [ratD (mkRat n d), i64 0] := by
    refine fun_of_go (fun t => false) mixed tOk Tryz.func279 rfl rfl ?_
    conv => whnf
    refine call_data rfl rfl c4 ?_
    conv => whnf
    refine cond_df (by omega) ?_
    conv => whnf
    refine call_data rfl rfl c3 ?_
    conv => whnf
    exact ⟨⟨rfl, rfl, rfl, trivial⟩, rfl, trivial⟩
  refine fun_of_go (fun t => false) mixed tOk Tryz.func202 rfl rfl ?_
  conv => whnf
  refine call_data rfl rfl c1 ?_
  conv => whnf
  refine call_data rfl rfl c2 ?_
  conv => whnf
  refine call_data rfl rfl c5 ?_
  conv => whnf
  exact ⟨⟨rfl, rfl, rfl, trivial⟩, rfl, trivial⟩
end Go.Nv
end
