import Derived.Test.YtdjbkccoofcnjaaGreatNvD3
import Derived.Test.YtdjbkccoofcnjaaGreatNvC5
set_option linter.all false
set_option linter.unusedVariables false
set_option linter.unusedSimpArgs false
section
namespace Go.Nv
open Go.Proofs Nw
set_option maxRecDepth 100000
set_option linter.unusedVariables false
set_option linter.unusedSimpArgs false
theorem sg_ng (x : Int) : sg (ng x) x.natAbs = x := by
  rw [ng_eq]; unfold sg; by_cases h : x < 0 <;> simp [h] <;> omega
theorem zD_of (x : Int) : zD x = intD (ng x) (nb x.natAbs) := rfl
theorem nb_size_le (s : ByteArray) : (nb (bv s)).size ≤ s.size := by
  rw [nb_size]; exact nbl_length_le (bvl_lt _)
theorem abs_sg (n : Bool) (s : ByteArray) : (nb (sg n (bv s)).natAbs).size ≤ s.size := by rw [sg_abs]; exact nb_size_le s
theorem rcanon_z (x : Int) : Fun Tryz.prog 255 [zD x] [zD x] := by
  have := rcanon_c (ng x) (nb x.natAbs)
  rwa [bv_nb, sg_ng] at this
theorem rneg_z (x : Int) : Fun Tryz.prog 252 [zD x] [zD (-x)] := by
  have := rneg_c (ng x) (nb x.natAbs)
  rwa [bv_nb, sg_ng] at this
theorem rval_z (x : Int) (h : (nb x.natAbs).size ≤ 7) : Fun Tryz.prog 256 [zD x] [i64 x] := by
  have := rvalue_c (ng x) (nb x.natAbs) h
  rwa [bv_nb, sg_ng] at this
theorem small_z {x : Int} (h : (nb x.natAbs).size ≤ 7) : -72057594037927936 < x ∧ x < 72057594037927936 := by
  have := sg_small (n := ng x) h
  rwa [bv_nb, sg_ng] at this
theorem z_add {x y : Int} (g : ng x = ng y) : zD (x + y) = intD (ng x) (nb (x.natAbs + y.natAbs)) := by
  rw [ng_eq, ng_eq, decide_eq_decide] at g
  rw [zD_of, ng_eq, ng_eq, show (decide (x + y < 0)) = decide (x < 0) by rw [decide_eq_decide]; omega, show (x + y).natAbs = x.natAbs + y.natAbs by omega]
theorem z_eq0 {x y : Int} (g : ng x ≠ ng y) (g2 : cmpN x.natAbs y.natAbs = 0) : zD (x + y) = intD false (nb 0) := by
  rw [ng_eq, ng_eq, Ne, decide_eq_decide] at g
  have : x + y = 0 := by unfold cmpN at g2; repeat' split at g2 <;> omega
  rw [this, zD_of, ng_eq]; rfl
theorem z_gt {x y : Int} (g : ng x ≠ ng y) (g3 : cmpN x.natAbs y.natAbs > 0) : y.natAbs < x.natAbs ∧ zD (x + y) = intD (ng x) (nb (x.natAbs - y.natAbs)) := by
  rw [ng_eq, ng_eq, Ne, decide_eq_decide] at g
  have h : y.natAbs < x.natAbs := by unfold cmpN at g3; repeat' split at g3 <;> omega
  refine ⟨h, ?_⟩
  rw [zD_of, ng_eq, ng_eq, show (decide (x + y < 0)) = decide (x < 0) by rw [decide_eq_decide]; omega, show (x + y).natAbs = x.natAbs - y.natAbs by omega]
theorem z_lt {x y : Int} (g : ng x ≠ ng y) (g2 : ¬ cmpN x.natAbs y.natAbs = 0) (g3 : ¬ cmpN x.natAbs y.natAbs > 0) : x.natAbs < y.natAbs ∧ zD (x + y) = intD (ng y) (nb (y.natAbs - x.natAbs)) := by
  rw [ng_eq, ng_eq, Ne, decide_eq_decide] at g
  have h : x.natAbs < y.natAbs := by
    unfold cmpN at g2 g3
    split at g2 <;> rename_i h1
    · exact h1
    · rw [if_neg h1] at g3; split at g2 <;> omega
  refine ⟨h, ?_⟩
  rw [zD_of, ng_eq, ng_eq, show (decide (x + y < 0)) = decide (y < 0) by rw [decide_eq_decide]; omega, show (x + y).natAbs = y.natAbs - x.natAbs by omega]
theorem radd_c (n m : Bool) (s t : ByteArray) (hs : s.size < 400000000000) (ht : t.size < 400000000000) : Fun Tryz.prog 176 [intD n s, intD m t] [zD (sg n (bv s) + sg m (bv t))] := by
  have c1 := rcanon_c n s
  have c2 := rcanon_c m t
  have l1 := abs_sg n s
  have l2 := abs_sg m t
  generalize sg n (bv s) = x at *
  generalize sg m (bv t) = y at *
  refine fun_of_go (fun t => t == 2 || t == 3) mixed tOk Tryz.func176 rfl rfl ?_
  conv => whnf
  refine callv_data c1 ?_
  conv => whnf
  refine callv_data c2 ?_
  conv => whnf
  refine safe_intro (by kernel_rfl) ?_
  conv => whnf
  refine cond_d (fun h => ?_) (fun h => ?_)
  · conv => whnf
    refine cond_d (fun h2 => ?_) (fun h2 => ?_)
    · conv => whnf
      refine callv_data (rval_z x (by omega)) ?_
      conv => whnf
      refine callv_data (rval_z y (by omega)) ?_
      conv => whnf
      have b1 := small_z (x := x) (by omega)
      have b2 := small_z (x := y) (by omega)
      refine sd_d (by omega) ?_
      conv => whnf
      refine callv_data (rof_c (x + y) (by omega)) ?_
      conv => whnf
      refine safe_intro (by kernel_rfl) ?_
      conv => whnf
      exact ⟨⟨rfl, rfl, trivial⟩, trivial⟩
    · conv => whnf
      refine cond_e (fun g => ?_) (fun g => ?_)
      · conv => whnf
        refine callv_data (raddMag_n x.natAbs y.natAbs (by omega) (by omega)) ?_
        conv => whnf
        refine safe_intro (by kernel_rfl) ?_
        conv => whnf
        rw [z_add g]
        exact ⟨⟨rfl, rfl, trivial⟩, trivial⟩
      · conv => whnf
        refine call_data rfl rfl (rcmp_c x.natAbs y.natAbs) ?_
        conv => whnf
        refine cond_d (fun g2 => ?_) (fun g2 => ?_)
        · conv => whnf
          rw [z_eq0 g g2]
          exact ⟨⟨rfl, rfl, trivial⟩, trivial⟩
        · conv => whnf
          refine cond_d (fun g3 => ?_) (fun g3 => ?_)
          · conv => whnf
            obtain ⟨e1, e2⟩ := z_gt g g3
            refine callv_data (rsubMag_n x.natAbs y.natAbs (by omega) (by omega) (by omega)) ?_
            conv => whnf
            refine safe_intro (by kernel_rfl) ?_
            conv => whnf
            rw [e2]
            exact ⟨⟨rfl, rfl, trivial⟩, trivial⟩
          · conv => whnf
            obtain ⟨e1, e2⟩ := z_lt g g2 g3
            refine callv_data (rsubMag_n y.natAbs x.natAbs (by omega) (by omega) (by omega)) ?_
            conv => whnf
            refine safe_intro (by kernel_rfl) ?_
            conv => whnf
            rw [e2]
            exact ⟨⟨rfl, rfl, trivial⟩, trivial⟩
  · conv => whnf
    refine cond_e (fun g => ?_) (fun g => ?_)
    · conv => whnf
      refine callv_data (raddMag_n x.natAbs y.natAbs (by omega) (by omega)) ?_
      conv => whnf
      refine safe_intro (by kernel_rfl) ?_
      conv => whnf
      rw [z_add g]
      exact ⟨⟨rfl, rfl, trivial⟩, trivial⟩
    · conv => whnf
      refine call_data rfl rfl (rcmp_c x.natAbs y.natAbs) ?_
      conv => whnf
      refine cond_d (fun g2 => ?_) (fun g2 => ?_)
      · conv => whnf
        rw [z_eq0 g g2]
        exact ⟨⟨rfl, rfl, trivial⟩, trivial⟩
      · conv => whnf
        refine cond_d (fun g3 => ?_) (fun g3 => ?_)
        · conv => whnf
          obtain ⟨e1, e2⟩ := z_gt g g3
          refine callv_data (rsubMag_n x.natAbs y.natAbs (by omega) (by omega) (by omega)) ?_
          conv => whnf
          refine safe_intro (by kernel_rfl) ?_
          conv => whnf
          rw [e2]
          exact ⟨⟨rfl, rfl, trivial⟩, trivial⟩
        · conv => whnf
          obtain ⟨e1, e2⟩ := z_lt g g2 g3
          refine callv_data (rsubMag_n y.natAbs x.natAbs (by omega) (by omega) (by omega)) ?_
          conv => whnf
          refine safe_intro (by kernel_rfl) ?_
          conv => whnf
          rw [e2]
          exact ⟨⟨rfl, rfl, trivial⟩, trivial⟩
theorem radd_z (x y : Int) (hx : (nb x.natAbs).size < 400000000000) (hy : (nb y.natAbs).size < 400000000000) : Fun Tryz.prog 176 [zD x, zD y] [zD (x + y)] := by
  have := radd_c (ng x) (ng y) (nb x.natAbs) (nb y.natAbs) hx hy
  rwa [bv_nb, bv_nb, sg_ng, sg_ng] at this
theorem rsub_z (x y : Int) (hx : (nb x.natAbs).size < 400000000000) (hy : (nb y.natAbs).size < 400000000000) : Fun Tryz.prog 318 [zD x, zD y] [zD (x - y)] := by
  refine fun_of_go (fun t => false) mixed tOk Tryz.func318 rfl rfl ?_
  conv => whnf
  refine callv_data (rneg_z y) ?_
  conv => whnf
  refine callv_data (radd_z x (-y) hx (by rw [Int.natAbs_neg]; exact hy)) ?_
  conv => whnf
  refine safe_intro (by kernel_rfl) ?_
  conv => whnf
  rw [← Int.sub_eq_add_neg]
  exact ⟨⟨rfl, rfl, trivial⟩, trivial⟩
theorem zD_mul (x y : Int) (hx : x ≠ 0) (hy : y ≠ 0) : zD (x * y) = intD (bz (ng x != ng y)) (nb (x.natAbs * y.natAbs)) := by
  rw [zD_of, bz_eq, ng_eq, ng_eq, ng_eq, Int.natAbs_mul]
  have e : decide (x * y < 0) = (decide (x < 0) != decide (y < 0)) := by
    rcases Int.lt_trichotomy x 0 with h | h | h <;> rcases Int.lt_trichotomy y 0 with h' | h' | h'
    · have := Int.mul_pos_of_neg_of_neg h h'
      simp [h, h']; omega
    · omega
    · have := Int.mul_neg_of_neg_of_pos h h'
      simp [h, this]; omega
    · omega
    · omega
    · omega
    · have := Int.mul_neg_of_pos_of_neg h h'
      simp [h', this]; omega
    · omega
    · have := Int.mul_pos h h'
      have a1 : ¬ x < 0 := by omega
      have a2 : ¬ y < 0 := by omega
      have a3 : ¬ x * y < 0 := by omega
      simp [a1, a2, a3]
  rw [e]
theorem zD_zero : zD 0 = intD false ⟨#[]⟩ := by rw [zD_of, ng_eq]; rfl
theorem abs_lt (x : Int) : x.natAbs < 256 ^ (nb x.natAbs).size := by
  have := bvl_lt (nbl x.natAbs)
  rwa [bvl_nbl, ← nb_size] at this
theorem mul_small {x y : Int} (h : (nb x.natAbs).size + (nb y.natAbs).size ≤ 7) : -72057594037927936 < x * y ∧ x * y < 72057594037927936 := by
  have h1 := Nat.mul_lt_mul'' (abs_lt x) (abs_lt y)
  rw [← Nat.pow_add, ← Int.natAbs_mul] at h1
  have h2 := Nat.pow_le_pow_right (n := 256) (by omega) h
  have h3 : (256 : Nat) ^ 7 = 72057594037927936 := rfl
  omega
theorem rmulMag_n (a b : Nat) (ha : (nb a).size < 1000000000000) (hb : (nb b).size < 1000000000000) : Fun Tryz.prog 260 [.v (.string (nb a)), .v (.string (nb b))] [.v (.string (nb (a * b)))] := by
  have := rmulMag_c (nb a) (nb b) ha hb
  rwa [bv_nb, bv_nb] at this
theorem rmul_c (n m : Bool) (s t : ByteArray) (hs : s.size < 400000000000) (ht : t.size < 400000000000) : Fun Tryz.prog 177 [intD n s, intD m t] [zD (sg n (bv s) * sg m (bv t))] := by
  have c1 := rcanon_c n s
  have c2 := rcanon_c m t
  have l1 := abs_sg n s
  have l2 := abs_sg m t
  generalize sg n (bv s) = x at *
  generalize sg m (bv t) = y at *
  refine fun_of_go (fun t => t == 2 || t == 3) mixed tOk Tryz.func177 rfl rfl ?_
  conv => whnf
  refine callv_data c1 ?_
  conv => whnf
  refine callv_data c2 ?_
  conv => whnf
  refine safe_intro (by kernel_rfl) ?_
  conv => whnf
  refine cond_b (fun h => ?_) (fun h => ?_)
  · rw [nb_ne, decide_eq_true_eq] at h
    have h0 : x = 0 := by omega
    subst h0
    conv => whnf
    rw [Int.zero_mul, zD_zero]
    exact ⟨⟨rfl, rfl, trivial⟩, trivial⟩
  · rw [nb_ne, decide_eq_false_iff_not] at h
    conv => whnf
    refine cond_b (fun h2 => ?_) (fun h2 => ?_)
    · rw [nb_ne, decide_eq_true_eq] at h2
      have h0 : y = 0 := by omega
      subst h0
      conv => whnf
      rw [Int.mul_zero, zD_zero]
      exact ⟨⟨rfl, rfl, trivial⟩, trivial⟩
    · rw [nb_ne, decide_eq_false_iff_not] at h2
      conv => whnf
      refine sd_d (by omega) ?_
      conv => whnf
      refine cond_d (fun h3 => ?_) (fun h3 => ?_)
      · conv => whnf
        refine callv_data (rval_z x (by omega)) ?_
        conv => whnf
        refine callv_data (rval_z y (by omega)) ?_
        conv => whnf
        have hp := mul_small (x := x) (y := y) (by omega)
        refine sd_d (by omega) ?_
        conv => whnf
        refine callv_data (rof_c (x * y) (by omega)) ?_
        conv => whnf
        refine safe_intro (by kernel_rfl) ?_
        conv => whnf
        exact ⟨⟨rfl, rfl, trivial⟩, trivial⟩
      · conv => whnf
        refine callv_data (rmulMag_n x.natAbs y.natAbs (by omega) (by omega)) ?_
        conv => whnf
        refine safe_intro (by kernel_rfl) ?_
        conv => whnf
        rw [zD_mul x y (by omega) (by omega)]
        exact ⟨⟨rfl, rfl, trivial⟩, trivial⟩
theorem rcmpI_c (n m : Bool) (s t : ByteArray) : Fun Tryz.prog 233 [intD n s, intD m t] [i64 (cmpZ (sg n (bv s)) (sg m (bv t)))] := by
  have c1 := rcanon_c n s
  have c2 := rcanon_c m t
  generalize sg n (bv s) = x at *
  generalize sg m (bv t) = y at *
  refine fun_of_go (fun t => t == 2 || t == 3) mixed tOk Tryz.func233 rfl rfl ?_
  conv => whnf
  refine callv_data c1 ?_
  conv => whnf
  refine callv_data c2 ?_
  conv => whnf
  refine safe_intro (by kernel_rfl) ?_
  conv => whnf
  rw [show cmpZ x y = (if ng x ≠ ng y then (if ng x then -1 else 1) else if ng x then cmpN y.natAbs x.natAbs else cmpN x.natAbs y.natAbs) by
    rw [ng_eq, ng_eq]; unfold cmpZ cmpN; simp only [Ne, decide_eq_decide, decide_eq_true_eq]; repeat' split
    all_goals omega]
  refine cond_ne (fun h => ?_) (fun h => ?_)
  · conv => whnf
    rw [if_pos h]
    refine cond_intro (fun h2 => ?_) (fun h2 => ?_)
    · conv => whnf
      refine ⟨?_, trivial⟩
      conv => whnf
      rw [if_pos h2]
    · conv => whnf
      refine ⟨?_, trivial⟩
      conv => whnf
      rw [if_neg (by rw [h2]; simp)]
  · conv => whnf
    rw [if_neg (fun hh => hh h)]
    refine cond_intro (fun h2 => ?_) (fun h2 => ?_)
    · conv => whnf
      refine call_data rfl rfl (rcmp_c y.natAbs x.natAbs) ?_
      conv => whnf
      refine ⟨?_, trivial⟩
      conv => whnf
      rw [if_pos h2]
    · conv => whnf
      refine call_data rfl rfl (rcmp_c x.natAbs y.natAbs) ?_
      conv => whnf
      refine ⟨?_, trivial⟩
      conv => whnf
      rw [if_neg (by rw [h2]; simp)]
end Go.Nv
end
section
namespace Go.Nv
open Go.Proofs Nw
set_option maxRecDepth 100000
set_option linter.unusedVariables false
set_option linter.unusedSimpArgs false
theorem rsmall_n (a : Nat) (h : (nb a).size ≤ 7) : Fun Tryz.prog 317 [.v (.string (nb a))] [i64 (a : Nat)] := by
  have := rsmall_c (nb a) h
  rwa [bv_nb] at this
theorem rdivMag_n (a b : Nat) (ha : (nb a).size < 1000000000000) (hb : (nb b).size < 400000000000) (h0 : b ≠ 0) : Fun Tryz.prog 316 [.v (.string (nb a)), .v (.string (nb b))] [.v (.string (nb (a / b))), .v (.string (nb (a % b)))] := by
  have := rdivMag_c (nb a) b ha hb h0
  rwa [bv_nb] at this
theorem zD_nat (a : Nat) : zD (a : Int) = intD false (nb a) := by
  rw [zD_of, ng_eq, show decide ((a : Int) < 0) = false by simp]; rfl
theorem small_n {a : Nat} (h : (nb a).size ≤ 7) : a < 72057594037927936 := by
  have := small_z (x := (a : Int)) (by simpa using h)
  omega
theorem rof_n (a : Nat) (h : a ≤ 9223372036854775807) : Fun Tryz.prog 201 [i64 (a : Int)] [intD false (nb a)] := by
  have := rof_c (a : Int) (by omega)
  rwa [zD_nat] at this
theorem nb_mono {a b : Nat} (h : a ≤ b) : (nb a).size ≤ (nb b).size := by
  rcases Nat.lt_or_ge (nb b).size (nb a).size with h1 | h1
  · have := nb_lt h1; omega
  · exact h1
theorem ediv_abs (x : Int) (b : Nat) (h0 : b ≠ 0) : (0 ≤ x → x / (b : Int) = ((x.natAbs / b : Nat) : Int) ∧ x % (b : Int) = ((x.natAbs % b : Nat) : Int)) ∧
    (x < 0 → x.natAbs % b = 0 → x / (b : Int) = -((x.natAbs / b : Nat) : Int) ∧ x % (b : Int) = 0) ∧
    (x < 0 → x.natAbs % b ≠ 0 → x / (b : Int) = -((x.natAbs / b : Nat) : Int) - 1 ∧ x % (b : Int) = (b : Int) - ((x.natAbs % b : Nat) : Int)) := by
  have e := Nat.div_add_mod x.natAbs b
  have l := Nat.mod_lt x.natAbs (show 0 < b by omega)
  have hb : (0 : Int) < b := by omega
  have e' : (b : Int) * ((x.natAbs / b : Nat) : Int) + ((x.natAbs % b : Nat) : Int) = x.natAbs := by rw [← Int.natCast_mul, ← Int.natCast_add, e]
  generalize x.natAbs / b = q at *
  generalize x.natAbs % b = r at *
  refine ⟨fun h => ?_, fun h h2 => ?_, fun h h2 => ?_⟩
  · rw [Int.ediv_emod_unique hb]; omega
  · rw [Int.ediv_emod_unique hb, Int.mul_neg]; omega
  · rw [Int.ediv_emod_unique hb, Int.mul_sub, Int.mul_neg]; omega
set_option maxHeartbeats 2000000 in
theorem rdiv_z (x : Int) (b : Nat) (hx : (nb x.natAbs).size < 300000000000) (hb : (nb b).size < 300000000000) (h0 : b ≠ 0) : Fun Tryz.prog 254 [zD x, zD (b : Int)] [zD (x / (b : Int)), zD (x % (b : Int)), i64 0] := by
  have c1 := rcanon_z x
  have c2 := rcanon_z (b : Int)
  rw [zD_nat] at *
  refine fun_of_go (fun t => t == 2 || t == 3) mixed tOk Tryz.func254 rfl rfl ?_
  conv => whnf
  refine callv_data c1 ?_
  conv => whnf
  refine callv_data c2 ?_
  conv => whnf
  refine safe_intro (by kernel_rfl) ?_
  conv => whnf
  have n1 := rneg_c false (nb (x.natAbs / b))
  rw [bv_nb, show sg false (x.natAbs / b) = ((x.natAbs / b : Nat) : Int) from rfl] at n1
  have n2 := rof_c 1 (by omega)
  have m1 : (nb (x.natAbs / b)).size ≤ (nb x.natAbs).size := nb_mono (Nat.div_le_self _ _)
  have m2 : (nb (x.natAbs % b)).size ≤ (nb b).size := nb_mono (Nat.le_of_lt (Nat.mod_lt _ (by omega)))
  have n3 := rsub_z (-((x.natAbs / b : Nat) : Int)) 1 (by rw [Int.natAbs_neg, Int.natAbs_natCast]; omega) (by decide)
  have n4 := rsub_z (b : Int) ((x.natAbs % b : Nat) : Int) (by rw [Int.natAbs_natCast]; omega) (by rw [Int.natAbs_natCast]; omega)
  rw [zD_nat, zD_nat] at n4
  obtain ⟨z1, z2, z3⟩ := ediv_abs x b h0
  refine cond_b (fun h => ?_) (fun h => ?_)
  · rw [nb_ne, decide_eq_true_eq] at h
    exact absurd h h0
  · conv => whnf
    refine cond_d (fun h1 => ?_) (fun h1 => ?_)
    · conv => whnf
      refine cond_d (fun h2 => ?_) (fun h2 => ?_)
      · conv => whnf
        refine callv_data (rsmall_n x.natAbs (by omega)) ?_
        conv => whnf
        refine callv_data (rsmall_n b (by omega)) ?_
        conv => whnf
        refine safe_intro (by kernel_rfl) ?_
        conv => whnf
        have b1 := small_n (a := x.natAbs) (by omega)
        have b2 := small_n (a := b) (by omega)
        have q1 : Int.tdiv (x.natAbs : Int) (b : Int) = ((x.natAbs / b : Nat) : Int) := rfl
        have q2 : Int.tmod (x.natAbs : Int) (b : Int) = ((x.natAbs % b : Nat) : Int) := rfl
        have q3 := Nat.div_le_self x.natAbs b
        have q4 := Nat.mod_lt x.natAbs (show 0 < b by omega)
        have q5 : (0 : Int) ≤ ((x.natAbs / b : Nat) : Int) := Int.natCast_nonneg _
        rw [q1]
        refine sd_dd (by omega) (by omega) ?_
        conv => whnf
        refine callv_data (rof_n (x.natAbs / b) (by omega)) ?_
        conv => whnf
        rw [q2]
        refine sd_d (by omega) ?_
        conv => whnf
        refine callv_data (rof_n (x.natAbs % b) (by omega)) ?_
        conv => whnf
        refine safe_intro (by kernel_rfl) ?_
        conv => whnf
        refine cond_ne (fun g => ?_) (fun g => ?_)
        · conv => whnf
          have hx0 : x < 0 := by rw [ng_eq] at g; simpa using g
          refine call_data rfl rfl n1 ?_
          conv => whnf
          refine cond_b (fun g2 => ?_) (fun g2 => ?_)
          · conv => whnf
            rw [nb_ne] at g2
            obtain ⟨y1, y2⟩ := z3 hx0 (by simpa using g2)
            rw [y1, y2]
            refine callv_data n2 ?_
            conv => whnf
            refine callv_data n3 ?_
            conv => whnf
            refine safe_intro (by kernel_rfl) ?_
            conv => whnf
            refine call_data rfl rfl n4 ?_
            conv => whnf
            refine safe_intro (by kernel_rfl) ?_
            conv => whnf
            exact ⟨⟨rfl, rfl, trivial⟩, ⟨rfl, rfl, trivial⟩, rfl, trivial⟩
          · conv => whnf
            rw [nb_ne] at g2
            have r0 : x.natAbs % b = 0 := by simpa using g2
            obtain ⟨y1, y2⟩ := z2 hx0 r0
            rw [y1, y2, zD_zero, r0, nb_zero]
            refine safe_intro (by kernel_rfl) ?_
            conv => whnf
            exact ⟨⟨rfl, rfl, trivial⟩, ⟨rfl, rfl, trivial⟩, rfl, trivial⟩
        · conv => whnf
          have hx0 : 0 ≤ x := by rw [ng_eq] at g; simpa using g
          obtain ⟨y1, y2⟩ := z1 hx0
          rw [y1, y2, zD_nat, zD_nat]
          refine safe_intro (by kernel_rfl) ?_
          conv => whnf
          exact ⟨⟨rfl, rfl, trivial⟩, ⟨rfl, rfl, trivial⟩, rfl, trivial⟩
      · conv => whnf
        refine call_data rfl rfl (rdivMag_n x.natAbs b (by omega) (by omega) h0) ?_
        conv => whnf
        refine cond_ne (fun g => ?_) (fun g => ?_)
        · conv => whnf
          have hx0 : x < 0 := by rw [ng_eq] at g; simpa using g
          refine call_data rfl rfl n1 ?_
          conv => whnf
          refine cond_b (fun g2 => ?_) (fun g2 => ?_)
          · conv => whnf
            rw [nb_ne] at g2
            obtain ⟨y1, y2⟩ := z3 hx0 (by simpa using g2)
            rw [y1, y2]
            refine callv_data n2 ?_
            conv => whnf
            refine callv_data n3 ?_
            conv => whnf
            refine safe_intro (by kernel_rfl) ?_
            conv => whnf
            refine call_data rfl rfl n4 ?_
            conv => whnf
            refine safe_intro (by kernel_rfl) ?_
            conv => whnf
            exact ⟨⟨rfl, rfl, trivial⟩, ⟨rfl, rfl, trivial⟩, rfl, trivial⟩
          · conv => whnf
            rw [nb_ne] at g2
            have r0 : x.natAbs % b = 0 := by simpa using g2
            obtain ⟨y1, y2⟩ := z2 hx0 r0
            rw [y1, y2, zD_zero, r0, nb_zero]
            refine safe_intro (by kernel_rfl) ?_
            conv => whnf
            exact ⟨⟨rfl, rfl, trivial⟩, ⟨rfl, rfl, trivial⟩, rfl, trivial⟩
        · conv => whnf
          have hx0 : 0 ≤ x := by rw [ng_eq] at g; simpa using g
          obtain ⟨y1, y2⟩ := z1 hx0
          rw [y1, y2, zD_nat, zD_nat]
          refine safe_intro (by kernel_rfl) ?_
          conv => whnf
          exact ⟨⟨rfl, rfl, trivial⟩, ⟨rfl, rfl, trivial⟩, rfl, trivial⟩
    · conv => whnf
      refine call_data rfl rfl (rdivMag_n x.natAbs b (by omega) (by omega) h0) ?_
      conv => whnf
      refine cond_ne (fun g => ?_) (fun g => ?_)
      · conv => whnf
        have hx0 : x < 0 := by rw [ng_eq] at g; simpa using g
        refine call_data rfl rfl n1 ?_
        conv => whnf
        refine cond_b (fun g2 => ?_) (fun g2 => ?_)
        · conv => whnf
          rw [nb_ne] at g2
          obtain ⟨y1, y2⟩ := z3 hx0 (by simpa using g2)
          rw [y1, y2]
          refine callv_data n2 ?_
          conv => whnf
          refine callv_data n3 ?_
          conv => whnf
          refine safe_intro (by kernel_rfl) ?_
          conv => whnf
          refine call_data rfl rfl n4 ?_
          conv => whnf
          refine safe_intro (by kernel_rfl) ?_
          conv => whnf
          exact ⟨⟨rfl, rfl, trivial⟩, ⟨rfl, rfl, trivial⟩, rfl, trivial⟩
        · conv => whnf
          rw [nb_ne] at g2
          have r0 : x.natAbs % b = 0 := by simpa using g2
          obtain ⟨y1, y2⟩ := z2 hx0 r0
          rw [y1, y2, zD_zero, r0, nb_zero]
          refine safe_intro (by kernel_rfl) ?_
          conv => whnf
          exact ⟨⟨rfl, rfl, trivial⟩, ⟨rfl, rfl, trivial⟩, rfl, trivial⟩
      · conv => whnf
        have hx0 : 0 ≤ x := by rw [ng_eq] at g; simpa using g
        obtain ⟨y1, y2⟩ := z1 hx0
        rw [y1, y2, zD_nat, zD_nat]
        refine safe_intro (by kernel_rfl) ?_
        conv => whnf
        exact ⟨⟨rfl, rfl, trivial⟩, ⟨rfl, rfl, trivial⟩, rfl, trivial⟩
theorem rgcd_c (n m : Bool) (s t : ByteArray) (hs : s.size < 300000000000) (ht : t.size < 300000000000) (h0 : bv t ≠ 0) : Fun Tryz.prog 253 [intD n s, intD m t] [zD ((Nat.gcd (bv s) (bv t) : Nat) : Int)] := by
  have l1 := nb_size_le s
  have l2 := nb_size_le t
  have c1 := rtrim_c s
  have c2 := rtrim_c t
  generalize bv s = x at *
  generalize bv t = y at *
  rw [zD_nat]
  refine fun_of_go (fun t => false) mixed tOk Tryz.func253 rfl rfl ?_
  conv => whnf
  refine callv_data c1 ?_
  conv => whnf
  refine callv_data c2 ?_
  conv => whnf
  refine safe_intro (by kernel_rfl) ?_
  conv => whnf
  refine loop_intro (fun t => false) (fun z : Nat × Nat => ⟨fr 53 [(4, .ptr 0 0 0), (5, .d (.v (.string (nb z.1)))), (6, .d (.v (.string (nb z.2))))], [.box 99 [.d (.v (.bool false)), .d (.v (.string ⟨#[]⟩))]]⟩) (fun z => Nat.gcd z.1 z.2 = Nat.gcd x y ∧ (nb z.1).size < 300000000000 ∧ (nb z.2).size < 300000000000 ∧ (z.1 ≠ 0 ∨ z.2 ≠ 0)) (fun z => z.2) (x, y) mixed tOk ⟨rfl, by simp only; omega, by simp only; omega, .inr h0⟩ ?_ ?_
  · refine weak_r ⟨⟨rfl, rfl, rfl, trivial⟩, trivial⟩ ⟨rfl, rfl, rfl, trivial⟩
  · rintro ⟨a, b⟩ ⟨i1, i2, i3, i4⟩
    simp only at i1 i2 i3 i4 ⊢
    conv => whnf
    refine cond_b (fun h => ?_) (fun h => ?_)
    · have hb : b ≠ 0 := by rw [nb_ne] at h; simpa using h
      conv => whnf
      refine cond_d (fun h2 => ?_) (fun h2 => ?_)
      · conv => whnf
        refine call_data rfl rfl (rdivMag_n a b (by omega) (by omega) hb) ?_
        conv => whnf
        refine ⟨(b, a % b), ⟨by simp only; rw [Nat.gcd_comm, ← Nat.gcd_rec, Nat.gcd_comm]; exact i1, by simp only; omega, by simp only; have := nb_mono (Nat.le_of_lt (Nat.mod_lt a (show 0 < b by omega))); omega, .inl hb⟩, by simp only; exact Nat.mod_lt a (by omega), weak_r ⟨⟨rfl, rfl, rfl, trivial⟩, trivial⟩ ⟨rfl, rfl, rfl, trivial⟩⟩
      · conv => whnf
        refine cond_d (fun h3 => ?_) (fun h3 => ?_)
        · conv => whnf
          refine call_data rfl rfl (rdivMag_n a b (by omega) (by omega) hb) ?_
          conv => whnf
          refine ⟨(b, a % b), ⟨by simp only; rw [Nat.gcd_comm, ← Nat.gcd_rec, Nat.gcd_comm]; exact i1, by simp only; omega, by simp only; have := nb_mono (Nat.le_of_lt (Nat.mod_lt a (show 0 < b by omega))); omega, .inl hb⟩, by simp only; exact Nat.mod_lt a (by omega), weak_r ⟨⟨rfl, rfl, rfl, trivial⟩, trivial⟩ ⟨rfl, rfl, rfl, trivial⟩⟩
        · conv => whnf
          refine cond_bf (by rw [nb_ne]; simpa using hb) ?_
          conv => whnf
          refine call_data rfl rfl (rsmall_n a (by omega)) ?_
          conv => whnf
          refine call_data rfl rfl (rsmall_n b (by omega)) ?_
          conv => whnf
          have a1 := small_n (a := a) (by omega)
          have a2 := small_n (a := b) (by omega)
          refine loop_intro (fun t => false) (fun z : Nat × Nat => ⟨fr 53 [(4, .ptr 0 0 0), (9, .d (i64 (z.1 : Int))), (10, .d (i64 (z.2 : Int)))], [.box 99 [.d (.v (.bool false)), .d (.v (.string ⟨#[]⟩))]]⟩) (fun z => Nat.gcd z.1 z.2 = Nat.gcd x y ∧ z.1 < 72057594037927936 ∧ z.2 < 72057594037927936) (fun z => z.2) (a, b) mixed tOk ⟨i1, a1, a2⟩ ?_ ?_
          · refine weak_r ⟨⟨rfl, rfl, rfl, trivial⟩, trivial⟩ ⟨rfl, rfl, rfl, trivial⟩
          · rintro ⟨c, d⟩ ⟨j1, j2, j3⟩
            simp only at j1 j2 j3 ⊢
            conv => whnf
            refine cond_d (fun g => ?_) (fun g => ?_)
            · conv => whnf
              have r1 : Int.tmod (c : Int) (d : Int) = ((c % d : Nat) : Int) := rfl
              rw [r1]
              have r2 := Nat.mod_lt c (show 0 < d by omega)
              refine sd_d (by omega) ?_
              conv => whnf
              refine safe_intro (by kernel_rfl) ?_
              conv => whnf
              refine ⟨(d, c % d), ⟨by simp only; rw [Nat.gcd_comm, ← Nat.gcd_rec, Nat.gcd_comm]; exact j1, by simp only; omega, by simp only; omega⟩, by simp only; omega, weak_r ⟨⟨rfl, rfl, rfl, trivial⟩, trivial⟩ ⟨rfl, rfl, rfl, trivial⟩⟩
            · have d0 : d = 0 := by omega
              subst d0
              conv => whnf
              refine call_data rfl rfl (rof_n c (by omega)) ?_
              conv => whnf
              rw [← j1, Nat.gcd_zero_right]
              exact ⟨⟨rfl, rfl, trivial⟩, trivial⟩
    · have hb : b = 0 := by rw [nb_ne] at h; simpa using h
      subst hb
      conv => whnf
      refine cond_bt (by rw [nb_ne]; rfl) ?_
      conv => whnf
      rw [← i1, Nat.gcd_zero_right]
      exact ⟨⟨rfl, rfl, trivial⟩, trivial⟩
end Go.Nv
end
section
namespace Go.Nv
open Go.Proofs Nw
set_option maxRecDepth 100000
set_option linter.unusedVariables false
set_option linter.unusedSimpArgs false
theorem rnumber_c (s : ByteArray) (hs : s.size ≤ 7) : Fun Tryz.prog 250 [.v (.string s)] [i64 (bv s)] := by
  refine fun_of_go (fun t => false) mixed tOk Tryz.func250 rfl rfl ?_
  conv => whnf
  refine loop_intro (fun t => false) (fun i : Nat => ⟨fr 19 [(0, .d (.v (.string s))), (2, .d (i64 0)), (3, .d (i64 (pre s i))), (4, .d (i64 i))], []⟩) (fun i => i ≤ s.size) (fun i => s.size - i) 0 mixed tOk (Nat.zero_le _) ?_ ?_
  · refine weak_r trivial ⟨rfl, rfl, ?_, rfl, trivial⟩
    conv => whnf
    rw [pre_zero]; rfl
  · intro i hi
    conv => whnf
    refine cond_d (fun h2 => ?_) (fun h2 => ?_) <;> conv => whnf
    · obtain ⟨p1, p2⟩ := pre_step s i (by omega)
      have hp := p54 (s := s) (i := i) (by omega) hs
      refine sd_d (by omega) ?_
      conv => whnf
      refine sd_d (by omega) ?_
      conv => whnf
      generalize s.data.toList[i]'_ = b at p1 p2
      have hb := b.toNat_lt
      refine sd_d (by rw [p1]; omega) ?_
      conv => whnf
      refine sd_d (by rw [p1]; omega) ?_
      conv => whnf
      refine sd_d (by omega) ?_
      conv => whnf
      refine ⟨i + 1, by omega, by omega, weak_r trivial ⟨rfl, rfl, ?_, rfl, trivial⟩⟩
      conv => whnf
      rw [p1, p2]
      omega
    · have hi2 : i = s.size := by omega
      refine ⟨?_, trivial⟩
      conv => whnf
      rw [hi2, pre_all]
theorem shr8 (n j : Nat) (hj : j ≤ 7) : Int.fdiv (n : Int) (2 ^ min (((8 * (j : Int))).toNat) IntKind.i64.bits) = ((n / 256 ^ j : Nat) : Int) := by
  have e : min (((8 * (j : Int))).toNat) IntKind.i64.bits = 8 * j := by
    show min _ 64 = _
    omega
  rw [e, Int.fdiv_eq_ediv_of_nonneg _ (by exact Int.le_of_lt (Int.pow_pos (by omega)))]
  rw [show (256 : Nat) = 2 ^ 8 from rfl, ← Nat.pow_mul]
  push_cast; rfl
theorem rdigits_c (n : Nat) (h : n < 72057594037927936) : Fun Tryz.prog 251 [i64 (n : Int)] [.v (.string (nb n))] := by
  refine fun_of_go (fun t => false) mixed tOk Tryz.func251 rfl rfl ?_
  conv => whnf
  refine loop_intro (fun t => false) (fun j : Nat => ⟨fr 30 [(0, .d (i64 (n : Int))), (3, .own 0 0), (4, .d (i64 (8 * (j : Int) - 8)))], [.row 0 5 1 1 (by8 (nbl (n / 256 ^ j)))]⟩) (fun j => j ≤ 7) (fun j => j) 7 mixed tOk (by omega) ?_ ?_
  · have e : n / 256 ^ 7 = 0 := Nat.div_eq_of_lt h
    rw [e, nbl_zero]
    exact weak_r ⟨⟨rfl, rfl, rfl, rfl, by unfold by8; rfl⟩, trivial⟩ ⟨rfl, trivial, rfl, trivial⟩
  · intro j hj
    rcases j with _ | i
    · conv => whnf
      refine cond_df (by omega) ?_
      conv => whnf
      refine sd_intro (by8_all _) ?_
      conv => whnf
      refine ⟨?_, trivial⟩
      conv => whnf
      rw [Nat.pow_zero, Nat.div_one, by8_str]
      rfl
    · rw [show 8 * ((i + 1 : Nat) : Int) - 8 = 8 * (i : Int) by omega]
      have hl8 := by8_length (nbl (n / 256 ^ (i + 1)))
      have hsh := shr8 n i (by omega)
      have hsz := nbl_length_le (n := n / 256 ^ (i + 1)) (k := 7) (Nat.lt_of_le_of_lt (Nat.div_le_self _ _) (by have : (256 : Nat) ^ 7 = 72057594037927936 := rfl; omega))
      have hdd : n / 256 ^ i / 256 = n / 256 ^ (i + 1) := by rw [Nat.div_div_eq_div_mul, ← Nat.pow_succ]
      have hle : n / 256 ^ i ≤ n := Nat.div_le_self _ _
      have htm : Int.tmod ((n / 256 ^ i : Nat) : Int) 256 = ((n / 256 ^ i % 256 : Nat) : Int) := rfl
      conv => whnf
      refine cond_dt (by omega) ?_
      conv => whnf
      refine sd_d (by omega) ?_
      conv => whnf
      rw [hsh]
      refine sd_d (by omega) ?_
      conv => whnf
      rw [htm]
      generalize hN : n / 256 ^ i = N at *
      have hz : N / 256 = 0 ∨ N ≠ 0 := by omega
      refine cond_d (fun g => ?_) (fun g => ?_)
      · have hN0 : N ≠ 0 := by omega
        conv => whnf
        refine sd_d (by omega) ?_
        conv => whnf
        rw [hsh]
        conv => whnf
        refine sd_app (by8_uni _) (by intro x hx; simp at hx; subst hx; rfl) (by simp only [maxLen, List.length_cons, List.length_nil]; omega) ?_
        conv => whnf
        refine sd_d (by omega) ?_
        conv => whnf
        refine ⟨i, by omega, by omega, weak_r ⟨⟨rfl, rfl, rfl, rfl, ?_⟩, trivial⟩ ⟨rfl, trivial, ?_, trivial⟩⟩
        · rw [hN, nbl_pos hN0, hdd, ← by8_app]
          congr 1
          have e9 : ((N : Int)) % 256 = ((UInt8.ofNat (N % 256)).toNat : Int) := by simp only [UInt8.toNat_ofNat']; omega
          unfold by8
          simp only [List.map_cons, List.map_nil]
          rw [e9]
        · conv => whnf
      · conv => whnf
        refine cond_d (fun g2 => ?_) (fun g2 => ?_)
        · have hN0 : N ≠ 0 := by
            intro hh
            have hq : n / 256 ^ (i + 1) = 0 := by rw [← hdd, hh]
            rw [hl8, hq, nbl_zero] at g2
            simp at g2
          conv => whnf
          refine sd_d (by omega) ?_
          conv => whnf
          rw [hsh]
          conv => whnf
          refine sd_app (by8_uni _) (by intro x hx; simp at hx; subst hx; rfl) (by simp only [maxLen, List.length_cons, List.length_nil]; omega) ?_
          conv => whnf
          refine sd_d (by omega) ?_
          conv => whnf
          refine ⟨i, by omega, by omega, weak_r ⟨⟨rfl, rfl, rfl, rfl, ?_⟩, trivial⟩ ⟨rfl, trivial, ?_, trivial⟩⟩
          · rw [hN, nbl_pos hN0, hdd, ← by8_app]
            congr 1
            have e9 : ((N : Int)) % 256 = ((UInt8.ofNat (N % 256)).toNat : Int) := by simp only [UInt8.toNat_ofNat']; omega
            unfold by8
            simp only [List.map_cons, List.map_nil]
            rw [e9]
          · conv => whnf
        · have hN0 : N = 0 := by
            rw [hl8] at g2
            have : nbl (n / 256 ^ (i + 1)) = [] := List.eq_nil_of_length_eq_zero (by omega)
            have := nbl_eq_nil.1 this
            omega
          conv => whnf
          refine sd_d (by omega) ?_
          conv => whnf
          refine ⟨i, by omega, by omega, weak_r ⟨⟨rfl, rfl, rfl, rfl, ?_⟩, trivial⟩ ⟨rfl, trivial, ?_, trivial⟩⟩
          · rw [hN, ← hdd, hN0]
          · conv => whnf
end Go.Nv
end
