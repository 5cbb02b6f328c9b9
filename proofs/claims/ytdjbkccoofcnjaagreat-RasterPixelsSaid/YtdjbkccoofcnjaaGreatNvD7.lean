import Derived.Test.YtdjbkccoofcnjaaGreatNvD6
import Derived.Test.YtdjbkccoofcnjaaGreatNvC9
import Derived.Test.YtdjbkccoofcnjaaGreatNvC46
set_option linter.all false
set_option linter.unusedVariables false
set_option linter.unusedSimpArgs false
section
namespace Go.Nv
open Go.Proofs Nw
set_option maxRecDepth 100000
set_option linter.unusedVariables false
set_option linter.unusedSimpArgs false
theorem fvcheck_q {x y : Rat} (hx : Q x) (hy : Q y) : Fun Tryz.prog 73 [ptD x y] [i64 0] := by
  have h := rvcheck_c (canon x) (canon y) hx.sz hy.sz
  rw [okP_zero.2 ⟨by rw [val_canon], by rw [val_canon]⟩] at h
  have e : ptD x y = ptR (canon x) (canon y) := by unfold ptD ptR rneg rnum rden; rfl
  rw [e]; exact h
theorem fgchk_q {x0 y0 x1 y1 : Rat} (q0 : Q x0) (q1 : Q y0) (q2 : Q x1) (q3 : Q y1) (hx : x0 < x1) (hy : y0 < y1) (m n : Int) : Fun Tryz.prog 74 [quD x0 y0 x1 y1, i64 m, i64 n] [i64 (gcE m n)] := by
  rw [quD_eq]
  refine rgchk1 _ _ _ _ q0.sz q1.sz q2.sz q3.sz ?_ m n
  unfold vbB
  rw [decide_eq_true_eq]
  exact ⟨okP_zero.2 ⟨by rw [val_canon], by rw [val_canon]⟩, okP_zero.2 ⟨by rw [val_canon], by rw [val_canon]⟩, val_lt.2 hx, val_lt.2 hy⟩
theorem ftouched_c {x0 y0 x1 y1 xa ya xb yb : Rat} {c r : Nat} {n : Nat} (h0 : Bd n x0) (h1 : Bd n y0) (h2 : Bd n x1) (h3 : Bd n y1) (ha : Bd n xa) (hb : Bd n ya) (hc : Bd n xb) (hd : Bd n yb) (hn : n < 10000000)
    (hx : x0 < x1) (hy : y0 < y1) (hcr : 1 ≤ c ∧ c ≤ 128) (hrr : 1 ≤ r ∧ r ≤ 128) (hne : ¬ (xa = xb ∧ ya = yb)) :
    Fun Tryz.prog 21 [quD xa ya xb yb, quD x0 y0 x1 y1, i64 (c : Int), i64 (r : Int)] [.l (tlD x0 y0 x1 y1 c r xa ya xb yb (c * r)), i64 0] := by
  have q0 : Q x0 := .mk h0 (by omega)
  have q1 : Q y0 := .mk h1 (by omega)
  have q2 : Q x1 := .mk h2 (by omega)
  have q3 : Q y1 := .mk h3 (by omega)
  have qa : Q xa := .mk ha (by omega)
  have qb : Q ya := .mk hb (by omega)
  have qc : Q xb := .mk hc (by omega)
  have qd : Q yb := .mk hd (by omega)
  have hg := fgchk_q q0 q1 q2 q3 hx hy c r
  rw [show gcE c r = 0 by unfold gcE; rw [if_neg (by omega)]] at hg
  have k1 : c * r ≤ 128 * 128 := Nat.mul_le_mul hcr.2 hrr.2
  have kN : (c : Int) * (r : Int) = ((c * r : Nat) : Int) := by push_cast; rfl
  refine fun_of_go (fun t => false) mixed tOk Tryz.func21 rfl rfl ?_
  conv => whnf
  refine call_data rfl rfl (fvcheck_q qa qb) ?_
  conv => whnf
  refine cond_bf (by decide) ?_
  conv => whnf
  refine call_data rfl rfl (fvcheck_q qc qd) ?_
  conv => whnf
  refine cond_bf (by decide) ?_
  conv => whnf
  refine call_data rfl rfl hg ?_
  conv => whnf
  refine cond_bf (by decide) ?_
  conv => whnf
  have hpe : eqDs (List.take ti29.cells (List.drop (0 + 0) (quD xa ya xb yb).cells)) (List.take ti29.cells (List.drop (0 + 6) (quD xa ya xb yb).cells)) = decide (xa = xb ∧ ya = yb) := eqDs_ptq _ _ _ _
  rw [hpe]
  refine cond_df hne ?_
  conv => whnf
  refine loop_intro (fun t => false) (fun j : Nat => ⟨fr 62 [(2, .d (i64 (c : Int))), (3, .d (i64 (r : Int))), (4, .d (.p 0 (quD xa ya xb yb).cells)), (5, .d (.p 0 (quD x0 y0 x1 y1).cells)), (11, .own 1 0), (12, .d (i64 (j : Int)))], [.row 0 3 1 8 [], .row 0 3 1 8 (tlD x0 y0 x1 y1 c r xa ya xb yb j)]⟩) (fun j => j ≤ c * r) (fun j => c * r - j) 0 mixed tOk (Nat.zero_le _) ?_ ?_
  · exact weak_r ⟨⟨rfl, rfl, rfl, rfl, rfl⟩, ⟨rfl, rfl, rfl, rfl, rfl⟩, trivial⟩ ⟨rfl, rfl, rfl, rfl, trivial, rfl, trivial⟩
  · intro j hj
    conv => whnf
    refine sd_d (by rw [kN]; omega) ?_
    conv => whnf
    rw [kN]
    refine cond_d (fun hlt => ?_) (fun hge => ?_)
    · have d1 := Int.tmod_nonneg (b := (c : Int)) (a := (j : Int)) (by omega)
      have d2 := Int.tmod_lt_of_pos (j : Int) (b := (c : Int)) (by omega)
      have d3 : 0 ≤ Int.tdiv (j : Int) c := Int.tdiv_nonneg (by omega) (by omega)
      have d4 : Int.tdiv (j : Int) c < r := by
        rw [Int.tdiv_eq_ediv_of_nonneg (by omega)]
        exact Int.ediv_lt_of_lt_mul (by omega) (by rw [Int.mul_comm, kN]; exact hlt)
      have hcl := fclip_c (n := 3 * n + 4) ⟨ha.mono (by omega), hb.mono (by omega)⟩ ⟨hc.mono (by omega), hd.mono (by omega)⟩ ⟨pxX_bd (c := c) (i := Int.tmod j c) h0 h2 (by omega) (by omega), pxY_bd (c := r) (i := Int.tdiv j c + 1) h1 h3 (by omega) (by omega)⟩
        ⟨pxX_bd (c := c) (i := Int.tmod j c + 1) h0 h2 (by omega) (by omega), pxY_bd (c := r) (i := Int.tdiv j c) h1 h3 (by omega) (by omega)⟩ (by omega) hne (pxX_le (by omega) (Rat.le_of_lt hx)) (pxY_le (by omega) (Rat.le_of_lt hy))
      have hl := tlD_len (x0 := x0) (y0 := y0) (x1 := x1) (y1 := y1) (c := c) (r := r) (xa := xa) (ya := ya) (xb := xb) (yb := yb) (n := j)
      conv => whnf
      refine callv_data (fpix_c h0 h1 h2 h3 (by omega) hcr hrr (by omega) (by rw [kN]; exact hlt)) ?_
      conv => whnf
      refine callv_data hcl ?_
      conv => whnf
      refine safe_intro (by kernel_rfl) ?_
      conv => whnf
      refine cond_intro (fun ht => ?_) (fun ht => ?_)
      · conv => whnf
        refine sd_app tlD_uni (uni1 _) (by simp only [maxLen, List.length_cons, List.length_nil]; omega) ?_
        conv => whnf
        refine sd_d (by omega) ?_
        conv => whnf
        refine ⟨j + 1, by omega, by omega, ?_⟩
        rw [tlD_t ht, Int.natCast_succ]
        refine weak_dead 2 rfl ?_
        refine weak_l ?_ ?_ <;> repeat' (first | exact trivial | exact rfl | refine And.intro ?_ ?_)
      · conv => whnf
        refine sd_d (by omega) ?_
        conv => whnf
        refine ⟨j + 1, by omega, by omega, ?_⟩
        rw [tlD_f ht, Int.natCast_succ]
        refine weak_dead 2 rfl ?_
        refine weak_l ?_ ?_ <;> repeat' (first | exact trivial | exact rfl | refine And.intro ?_ ?_)
    · have hj2 : j = c * r := by omega
      subst hj2
      conv => whnf
      refine ⟨?_, rfl, trivial⟩
      conv => whnf
end Go.Nv
end
section
namespace Go.Nv
open Go.Proofs Nw
set_option maxRecDepth 100000
set_option linter.unusedVariables false
set_option linter.unusedSimpArgs false
theorem ftch_p (a b c d p q u v : RD) (hp : Sz p) (hq : Sz q) (hu : Sz u) (hv : Sz v) (h : okP p q ≠ 0 ∨ okP u v ≠ 0) (m n : Int) :
    Fun Tryz.prog 21 [quR p q u v, quR a b c d, i64 m, i64 n] [.l [], i64 1] := by
  refine fun_of_go (fun t => false) mixed tOk Tryz.func21 rfl rfl ?_
  conv => whnf
  refine call_data rfl rfl (rvcheck_c p q hp hq) ?_
  conv => whnf
  refine cond_ne (fun g => ?_) (fun g => ?_)
  · conv => whnf
    exact ⟨rfl, rfl, trivial⟩
  · conv => whnf
    refine call_data rfl rfl (rvcheck_c u v hu hv) ?_
    conv => whnf
    refine cond_ne (fun g2 => ?_) (fun g2 => ?_)
    · conv => whnf
      exact ⟨rfl, rfl, trivial⟩
    · exact absurd h (by simp [g, g2])
theorem ftch_x (a b c d p q u v : RD) (ha : Sz a) (hb : Sz b) (hc : Sz c) (hd : Sz d) (hp : Sz p) (hq : Sz q) (hu : Sz u) (hv : Sz v) (h : vbB a b c d = false) (m n : Int) :
    Fun Tryz.prog 21 [quR p q u v, quR a b c d, i64 m, i64 n] [.l [], i64 1] := by
  refine fun_of_go (fun t => false) mixed tOk Tryz.func21 rfl rfl ?_
  conv => whnf
  refine call_data rfl rfl (rvcheck_c p q hp hq) ?_
  conv => whnf
  refine cond_ne (fun g => ?_) (fun g => ?_)
  · conv => whnf
    exact ⟨rfl, rfl, trivial⟩
  · conv => whnf
    refine call_data rfl rfl (rvcheck_c u v hu hv) ?_
    conv => whnf
    refine cond_ne (fun g2 => ?_) (fun g2 => ?_)
    · conv => whnf
      exact ⟨rfl, rfl, trivial⟩
    · conv => whnf
      refine call_data rfl rfl (rgchkx a b c d ha hb hc hd h m n) ?_
      conv => whnf
      refine cond_bt (by decide) ?_
      conv => whnf
      exact ⟨rfl, rfl, trivial⟩
theorem ftch_s (a b c d p q u v : RD) (ha : Sz a) (hb : Sz b) (hc : Sz c) (hd : Sz d) (hp : Sz p) (hq : Sz q) (hu : Sz u) (hv : Sz v) (h : vbB a b c d = true) (h1 : okP p q = 0) (h2 : okP u v = 0) (m n : Int) (hs : gcE m n = 2) :
    Fun Tryz.prog 21 [quR p q u v, quR a b c d, i64 m, i64 n] [.l [], i64 2] := by
  have c1 := rvcheck_c p q hp hq
  have c2 := rvcheck_c u v hu hv
  have c3 := rgchk1 a b c d ha hb hc hd h m n
  rw [h1] at c1
  rw [h2] at c2
  rw [hs] at c3
  refine fun_of_go (fun t => false) mixed tOk Tryz.func21 rfl rfl ?_
  conv => whnf
  refine call_data rfl rfl c1 ?_
  conv => whnf
  refine cond_bf (by decide) ?_
  conv => whnf
  refine call_data rfl rfl c2 ?_
  conv => whnf
  refine cond_bf (by decide) ?_
  conv => whnf
  refine call_data rfl rfl c3 ?_
  conv => whnf
  refine cond_bt (by decide) ?_
  conv => whnf
  exact ⟨rfl, rfl, trivial⟩
theorem ftch_e {x0 y0 x1 y1 : Rat} (q0 : Q x0) (q1 : Q y0) (q2 : Q x1) (q3 : Q y1) (hx : x0 < x1) (hy : y0 < y1) {xa ya : Rat} (qa : Q xa) (qb : Q ya) (m n : Int) (hs : gcE m n = 0) :
    Fun Tryz.prog 21 [quD xa ya xa ya, quD x0 y0 x1 y1, i64 m, i64 n] [.l [], i64 12] := by
  have hg := fgchk_q q0 q1 q2 q3 hx hy m n
  rw [hs] at hg
  refine fun_of_go (fun t => false) mixed tOk Tryz.func21 rfl rfl ?_
  conv => whnf
  refine call_data rfl rfl (fvcheck_q qa qb) ?_
  conv => whnf
  refine cond_bf (by decide) ?_
  conv => whnf
  refine call_data rfl rfl (fvcheck_q qa qb) ?_
  conv => whnf
  refine cond_bf (by decide) ?_
  conv => whnf
  refine call_data rfl rfl hg ?_
  conv => whnf
  refine cond_bf (by decide) ?_
  conv => whnf
  have hpe : eqDs (List.take ti29.cells (List.drop (0 + 0) (quD xa ya xa ya).cells)) (List.take ti29.cells (List.drop (0 + 6) (quD xa ya xa ya).cells)) = decide (xa = xa ∧ ya = ya) := eqDs_ptq _ _ _ _
  rw [hpe]
  refine cond_dt ⟨rfl, rfl⟩ ?_
  conv => whnf
  exact ⟨rfl, rfl, trivial⟩
theorem fpx_x (a b c d : RD) (ha : Sz a) (hb : Sz b) (hc : Sz c) (hd : Sz d) (h : vbB a b c d = false) (m n k : Int) :
    Fun Tryz.prog 23 [quR a b c d, i64 m, i64 n, i64 k] [quD 0 0 0 0, i64 1] := by
  refine fun_of_go (fun t => false) mixed tOk Tryz.func23 rfl rfl ?_
  conv => whnf
  refine call_data rfl rfl (rgchkx a b c d ha hb hc hd h m n) ?_
  conv => whnf
  refine cond_bt (by decide) ?_
  conv => whnf
  refine ⟨?_, rfl, trivial⟩
  conv => whnf
  exact ⟨rneg_zero.symm, rnum_zero.symm, rden_zero.symm, rneg_zero.symm, rnum_zero.symm, rden_zero.symm, rneg_zero.symm, rnum_zero.symm, rden_zero.symm, rneg_zero.symm, rnum_zero.symm, rden_zero.symm, trivial⟩
end Go.Nv
end
section
namespace Go.Nv
open Go.Proofs Nw
set_option maxRecDepth 100000
set_option linter.unusedVariables false
set_option linter.unusedSimpArgs false
theorem fpx_s {x0 y0 x1 y1 : Rat} (q0 : Q x0) (q1 : Q y0) (q2 : Q x1) (q3 : Q y1) (hx : x0 < x1) (hy : y0 < y1) (m n k : Int) (hs : gcE m n = 2) :
    Fun Tryz.prog 23 [quD x0 y0 x1 y1, i64 m, i64 n, i64 k] [quD 0 0 0 0, i64 2] := by
  have hg := fgchk_q q0 q1 q2 q3 hx hy m n
  rw [hs] at hg
  refine fun_of_go (fun t => false) mixed tOk Tryz.func23 rfl rfl ?_
  conv => whnf
  refine call_data rfl rfl hg ?_
  conv => whnf
  refine cond_bt (by decide) ?_
  conv => whnf
  refine ⟨?_, rfl, trivial⟩
  conv => whnf
  exact ⟨rneg_zero.symm, rnum_zero.symm, rden_zero.symm, rneg_zero.symm, rnum_zero.symm, rden_zero.symm, rneg_zero.symm, rnum_zero.symm, rden_zero.symm, rneg_zero.symm, rnum_zero.symm, rden_zero.symm, trivial⟩
theorem fpx_k {x0 y0 x1 y1 : Rat} (q0 : Q x0) (q1 : Q y0) (q2 : Q x1) (q3 : Q y1) (hx : x0 < x1) (hy : y0 < y1) (m n : Nat) (k : Int) (hs : gcE m n = 0) (hm : m ≤ 128 ∧ n ≤ 128) (hk : k < 0 ∨ (m : Int) * n ≤ k) :
    Fun Tryz.prog 23 [quD x0 y0 x1 y1, i64 (m : Int), i64 (n : Int), i64 k] [quD 0 0 0 0, i64 2] := by
  have hg := fgchk_q q0 q1 q2 q3 hx hy m n
  rw [hs] at hg
  have kN : (m : Int) * (n : Int) = ((m * n : Nat) : Int) := by push_cast; rfl
  have k1 : m * n ≤ 128 * 128 := Nat.mul_le_mul hm.1 hm.2
  refine fun_of_go (fun t => false) mixed tOk Tryz.func23 rfl rfl ?_
  conv => whnf
  refine call_data rfl rfl hg ?_
  conv => whnf
  refine cond_bf (by decide) ?_
  conv => whnf
  refine cond_d (fun g => ?_) (fun g => ?_)
  · conv => whnf
    refine ⟨?_, rfl, trivial⟩
    conv => whnf
    exact ⟨rneg_zero.symm, rnum_zero.symm, rden_zero.symm, rneg_zero.symm, rnum_zero.symm, rden_zero.symm, rneg_zero.symm, rnum_zero.symm, rden_zero.symm, rneg_zero.symm, rnum_zero.symm, rden_zero.symm, trivial⟩
  · conv => whnf
    refine sd_d (by rw [kN]; omega) ?_
    conv => whnf
    refine cond_dt (by omega) ?_
    conv => whnf
    refine ⟨?_, rfl, trivial⟩
    conv => whnf
    exact ⟨rneg_zero.symm, rnum_zero.symm, rden_zero.symm, rneg_zero.symm, rnum_zero.symm, rden_zero.symm, rneg_zero.symm, rnum_zero.symm, rden_zero.symm, rneg_zero.symm, rnum_zero.symm, rden_zero.symm, trivial⟩
theorem fpx_c {x0 y0 x1 y1 : Rat} {c r : Nat} {k : Int} {n : Nat} (h0 : Bd n x0) (h1 : Bd n y0) (h2 : Bd n x1) (h3 : Bd n y1) (hn : n < 100000000)
    (hx : x0 < x1) (hy : y0 < y1) (hcr : 1 ≤ c ∧ c ≤ 128) (hrr : 1 ≤ r ∧ r ≤ 128) (hk : 0 ≤ k) (hlt : k < (c : Int) * r) :
    Fun Tryz.prog 23 [quD x0 y0 x1 y1, i64 (c : Int), i64 (r : Int), i64 k] [quD (pxX x0 x1 c (Int.tmod k c)) (pxY y0 y1 r (Int.tdiv k c + 1)) (pxX x0 x1 c (Int.tmod k c + 1)) (pxY y0 y1 r (Int.tdiv k c)), i64 0] := by
  have hg := fgchk_q (.mk h0 (by omega)) (.mk h1 (by omega)) (.mk h2 (by omega)) (.mk h3 (by omega)) hx hy c r
  rw [show gcE c r = 0 by unfold gcE; rw [if_neg (by omega)]] at hg
  have kN : (c : Int) * (r : Int) = ((c * r : Nat) : Int) := by push_cast; rfl
  have k1 : c * r ≤ 128 * 128 := Nat.mul_le_mul hcr.2 hrr.2
  refine fun_of_go (fun t => false) mixed tOk Tryz.func23 rfl rfl ?_
  conv => whnf
  refine call_data rfl rfl hg ?_
  conv => whnf
  refine cond_bf (by decide) ?_
  conv => whnf
  refine cond_df (by omega) ?_
  conv => whnf
  refine sd_d (by rw [kN]; omega) ?_
  conv => whnf
  refine cond_df (by omega) ?_
  conv => whnf
  refine call_data rfl rfl (fpix_c h0 h1 h2 h3 hn hcr hrr hk hlt) ?_
  conv => whnf
  refine ⟨?_, rfl, trivial⟩
  conv => whnf
  exact ⟨rfl, rfl, rfl, rfl, rfl, rfl, rfl, rfl, rfl, rfl, rfl, rfl, trivial⟩
end Go.Nv
end
section
namespace Go.Nv
open Go.Proofs Nw
set_option maxRecDepth 100000
set_option linter.unusedVariables false
set_option linter.unusedSimpArgs false
theorem ppx_x (a b c d : RD) (ha : Sz a) (hb : Sz b) (hc : Sz c) (hd : Sz d) (h : vbB a b c d = false) (m n k : Int) :
    Fun Tryz.prog 22 [quR a b c d, i64 m, i64 n, i64 k] [quD 0 0 0 0, i64 1] := by
  refine fun_of_go (fun t => t == 4 || t == 8 || t == 10) mixed tOk Tryz.func22 rfl rfl ?_
  conv => whnf
  refine call_data rfl rfl (gchkx a b c d ha hb hc hd h m n true) ?_
  conv => whnf
  refine cond_bt (by decide) ?_
  conv => whnf
  refine ⟨?_, rfl, trivial⟩
  conv => whnf
  exact ⟨rneg_zero.symm, rnum_zero.symm, rden_zero.symm, rneg_zero.symm, rnum_zero.symm, rden_zero.symm, rneg_zero.symm, rnum_zero.symm, rden_zero.symm, rneg_zero.symm, rnum_zero.symm, rden_zero.symm, trivial⟩
theorem ppx_s {x0 y0 x1 y1 : Rat} (q0 : Q x0) (q1 : Q y0) (q2 : Q x1) (q3 : Q y1) (hx : x0 < x1) (hy : y0 < y1) (m n k : Int) (hs : gcE m n = 2) :
    Fun Tryz.prog 22 [quD x0 y0 x1 y1, i64 m, i64 n, i64 k] [quD 0 0 0 0, i64 2] := by
  have hg := gchk1 q0 q1 q2 q3 hx hy (c := m) (r := n)
  rw [hs] at hg
  refine fun_of_go (fun t => t == 4 || t == 8 || t == 10) mixed tOk Tryz.func22 rfl rfl ?_
  conv => whnf
  refine call_data rfl rfl hg ?_
  conv => whnf
  refine cond_bt (by decide) ?_
  conv => whnf
  refine ⟨?_, rfl, trivial⟩
  conv => whnf
  exact ⟨rneg_zero.symm, rnum_zero.symm, rden_zero.symm, rneg_zero.symm, rnum_zero.symm, rden_zero.symm, rneg_zero.symm, rnum_zero.symm, rden_zero.symm, rneg_zero.symm, rnum_zero.symm, rden_zero.symm, trivial⟩
theorem ppx_k {x0 y0 x1 y1 : Rat} (q0 : Q x0) (q1 : Q y0) (q2 : Q x1) (q3 : Q y1) (hx : x0 < x1) (hy : y0 < y1) (m n : Nat) (k : Int) (hs : gcE m n = 0) (hm : m ≤ 128 ∧ n ≤ 128) (hk : k < 0 ∨ (m : Int) * n ≤ k) :
    Fun Tryz.prog 22 [quD x0 y0 x1 y1, i64 (m : Int), i64 (n : Int), i64 k] [quD 0 0 0 0, i64 2] := by
  have hg := gchk1 q0 q1 q2 q3 hx hy (c := (m : Int)) (r := (n : Int))
  rw [hs] at hg
  have kN : (m : Int) * (n : Int) = ((m * n : Nat) : Int) := by push_cast; rfl
  have k1 : m * n ≤ 128 * 128 := Nat.mul_le_mul hm.1 hm.2
  refine fun_of_go (fun t => t == 4 || t == 8 || t == 10) mixed tOk Tryz.func22 rfl rfl ?_
  conv => whnf
  refine call_data rfl rfl hg ?_
  conv => whnf
  refine cond_bf (by decide) ?_
  conv => whnf
  refine cond_d (fun g => ?_) (fun g => ?_)
  · conv => whnf
    refine ⟨?_, rfl, trivial⟩
    conv => whnf
    exact ⟨rneg_zero.symm, rnum_zero.symm, rden_zero.symm, rneg_zero.symm, rnum_zero.symm, rden_zero.symm, rneg_zero.symm, rnum_zero.symm, rden_zero.symm, rneg_zero.symm, rnum_zero.symm, rden_zero.symm, trivial⟩
  · conv => whnf
    refine sd_d (by rw [kN]; omega) ?_
    conv => whnf
    refine cond_dt (by omega) ?_
    conv => whnf
    refine ⟨?_, rfl, trivial⟩
    conv => whnf
    exact ⟨rneg_zero.symm, rnum_zero.symm, rden_zero.symm, rneg_zero.symm, rnum_zero.symm, rden_zero.symm, rneg_zero.symm, rnum_zero.symm, rden_zero.symm, rneg_zero.symm, rnum_zero.symm, rden_zero.symm, trivial⟩
end Go.Nv
end
section
namespace Go.Nv
open Go.Proofs Nw
set_option maxRecDepth 100000
set_option linter.unusedVariables false
set_option linter.unusedSimpArgs false
theorem law4g (hA : Fun Tryz.prog 12 [] [.v (.bool true)]) (p q u v a b d e : RD) (c r k : Int) (hg : gtT [(a, b), (d, e), (p, q), (u, v)] c r = true) :
    Fun Tryz.prog 4 [quR p q u v, quR a b d e, i64 c, i64 r, i64 k] [.v (.bool true)] := by
  have h1 := great_w [(a, b), (d, e), (p, q), (u, v)] (by simp) c r
  rw [hg] at h1
  refine fun_of_go (fun t => t == 15 || t == 17) mixed tOk Tryz.func4 rfl rfl ?_
  conv => whnf
  refine call_eq rfl rfl h1 rfl ?_
  conv => whnf
  refine call_data rfl rfl hA ?_
  conv => whnf
  exact ⟨rfl, trivial⟩
theorem law4a (hA : Fun Tryz.prog 12 [] [.v (.bool true)]) (p q u v a b d e : RD) (c r k : Int) (hg : gtT [(a, b), (d, e), (p, q), (u, v)] c r = false) (X : List D) (f g : Int) (w0 w1 w2 w3 : Rat)
    (t1 : Fun Tryz.prog 20 [quR p q u v, quR a b d e, i64 c, i64 r] [.l X, i64 f]) (t2 : Fun Tryz.prog 21 [quR p q u v, quR a b d e, i64 c, i64 r] [.l X, i64 f])
    (p1 : Fun Tryz.prog 22 [quR a b d e, i64 c, i64 r, i64 k] [quD w0 w1 w2 w3, i64 g]) (p2 : Fun Tryz.prog 23 [quR a b d e, i64 c, i64 r, i64 k] [quD w0 w1 w2 w3, i64 g])
    (he : Fun Tryz.prog 24 [.l X, .l X] [.v (.bool true)]) :
    Fun Tryz.prog 4 [quR p q u v, quR a b d e, i64 c, i64 r, i64 k] [.v (.bool true)] := by
  have h1 := great_w [(a, b), (d, e), (p, q), (u, v)] (by simp) c r
  rw [hg] at h1
  refine fun_of_go (fun t => t == 15 || t == 17) mixed tOk Tryz.func4 rfl rfl ?_
  conv => whnf
  refine call_eq rfl rfl h1 rfl ?_
  conv => whnf
  refine call_data rfl rfl t1 ?_
  conv => whnf
  refine call_data rfl rfl t2 ?_
  conv => whnf
  refine call_data rfl rfl p1 ?_
  conv => whnf
  refine call_data rfl rfl p2 ?_
  conv => whnf
  refine call_data rfl rfl he ?_
  conv => whnf
  refine cond_bt (by simp) ?_
  conv => whnf
  have hq : eqDs (quD w0 w1 w2 w3).cells (quD w0 w1 w2 w3).cells = true := by
    simp [D.cells, eqDs, eqD, eqV, byt_beq]
  refine cond_bt (by exact hq) ?_
  conv => whnf
  refine cond_bt (by simp) ?_
  conv => whnf
  refine call_data rfl rfl hA ?_
  conv => whnf
  exact ⟨rfl, trivial⟩
theorem eq_nil : Fun Tryz.prog 24 [.l [], .l []] [.v (.bool true)] := equal_c [] (by simp)
theorem law4 (hA : Fun Tryz.prog 12 [] [.v (.bool true)]) (p q u v a b d e : RD) (c r k : Int) :
    Fun Tryz.prog 4 [quR p q u v, quR a b d e, i64 c, i64 r, i64 k] [.v (.bool true)] := by
  cases hg : gtT [(a, b), (d, e), (p, q), (u, v)] c r with
  | true => exact law4g hA p q u v a b d e c r k hg
  | false =>
    have law := law4a hA p q u v a b d e c r k hg
    unfold gtT at hg
    simp only [List.any_cons, List.any_nil, gtP, Bool.or_false, Bool.or_eq_false_iff, decide_eq_false_iff_not] at hg
    obtain ⟨⟨⟨ga, gb⟩, ⟨gd, ge⟩, ⟨gp, gq⟩, gu, gv⟩, gn⟩ := hg
    have hp := gtR_sz gp
    have hq := gtR_sz gq
    have hu := gtR_sz gu
    have hv := gtR_sz gv
    have ha := gtR_sz ga
    have hb := gtR_sz gb
    have hd := gtR_sz gd
    have he := gtR_sz ge
    cases hw : vbB a b d e with
    | false => exact law _ 1 1 0 0 0 0 (tch_x a b d e p q u v ha hb hd he hp hq hu hv hw c r) (ftch_x a b d e p q u v ha hb hd he hp hq hu hv hw c r) (ppx_x a b d e ha hb hd he hw c r k) (fpx_x a b d e ha hb hd he hw c r k) eq_nil
    | true =>
      have hw' := hw
      unfold vbB at hw
      obtain ⟨w1, w2, w3, w4⟩ := of_decide_eq_true hw
      rw [okP_zero] at w1 w2
      have ba := gtR_bd ga
      have bb := gtR_bd gb
      have bd := gtR_bd gd
      have be := gtR_bd ge
      have qa : Q a.val := .mk ba (by omega)
      have qb : Q b.val := .mk bb (by omega)
      have qd : Q d.val := .mk bd (by omega)
      have qe : Q e.val := .mk be (by omega)
      have eq1 : quR a b d e = quD a.val b.val d.val e.val := by rw [quD_eq, w1.1, w1.2, w2.1, w2.2]
      have tch : ∃ X f, (Fun Tryz.prog 20 [quR p q u v, quR a b d e, i64 c, i64 r] [.l X, i64 f]) ∧ (Fun Tryz.prog 21 [quR p q u v, quR a b d e, i64 c, i64 r] [.l X, i64 f]) ∧ Fun Tryz.prog 24 [.l X, .l X] [.v (.bool true)] := by
        by_cases hs : okP p q = 0 ∧ okP u v = 0
        · by_cases hz : c < 1 ∨ c > 128 ∨ r < 1 ∨ r > 128
          · have hz2 : gcE c r = 2 := by unfold gcE; rw [if_pos hz]
            refine ⟨[], 2, ?_, ftch_s a b d e p q u v ha hb hd he hp hq hu hv hw' hs.1 hs.2 c r hz2, eq_nil⟩
            rw [eq1]
            exact tch_s qa qb qd qe w3 w4 p q u v hp hq hu hv hs.1 hs.2 c r hz2
          · obtain ⟨s1, s2⟩ := hs
            rw [okP_zero] at s1 s2
            have eq2 : quR p q u v = quD p.val q.val u.val v.val := by rw [quD_eq, s1.1, s1.2, s2.1, s2.2]
            have bp := gtR_bd gp
            have bq := gtR_bd gq
            have bu := gtR_bd gu
            have bv := gtR_bd gv
            have hz0 : gcE c r = 0 := by unfold gcE; rw [if_neg hz]
            rw [eq1, eq2]
            by_cases hne : p.val = u.val ∧ q.val = v.val
            · refine ⟨[], 12, ?_, ?_, eq_nil⟩
              · rw [← hne.1, ← hne.2]
                exact tch_e qa qb qd qe w3 w4 (.mk bp (by omega)) (.mk bq (by omega)) c r hz0
              · rw [← hne.1, ← hne.2]
                exact ftch_e qa qb qd qe w3 w4 (.mk bp (by omega)) (.mk bq (by omega)) c r hz0
            · obtain ⟨C, rfl⟩ : ∃ C : Nat, c = C := ⟨c.toNat, by omega⟩
              obtain ⟨R, rfl⟩ : ∃ R : Nat, r = R := ⟨r.toNat, by omega⟩
              have k1 : C * R ≤ 128 * 128 := Nat.mul_le_mul (by omega) (by omega)
              have t1 := touched_c ba bb bd be bp bq bu bv (by omega) w3 w4 (c := (C : Int)) (r := (R : Int)) (by omega) (by omega) hne
              rw [Int.toNat_natCast, Int.toNat_natCast] at t1
              exact ⟨_, 0, t1, ftouched_c ba bb bd be bp bq bu bv (by omega) w3 w4 (by omega) (by omega) hne, tl_equal (by omega)⟩
        · have hs' : okP p q ≠ 0 ∨ okP u v ≠ 0 := by
            rcases Classical.em (okP p q = 0) with h | h
            · exact .inr fun h' => hs ⟨h, h'⟩
            · exact .inl h
          refine ⟨[], 1, ?_, ftch_p a b d e p q u v hp hq hu hv hs' c r, eq_nil⟩
          rw [eq1]
          exact tch_p qa qb qd qe w3 w4 p q u v hp hq hu hv hs' c r
      obtain ⟨X, f, t1, t2, t3⟩ := tch
      have pix : ∃ y0 y1 y2 y3 g, (Fun Tryz.prog 22 [quR a b d e, i64 c, i64 r, i64 k] [quD y0 y1 y2 y3, i64 g]) ∧ (Fun Tryz.prog 23 [quR a b d e, i64 c, i64 r, i64 k] [quD y0 y1 y2 y3, i64 g]) := by
        rw [eq1]
        by_cases hz : c < 1 ∨ c > 128 ∨ r < 1 ∨ r > 128
        · have hz2 : gcE c r = 2 := by unfold gcE; rw [if_pos hz]
          exact ⟨0, 0, 0, 0, 2, ppx_s qa qb qd qe w3 w4 c r k hz2, fpx_s qa qb qd qe w3 w4 c r k hz2⟩
        · have hz0 : gcE c r = 0 := by unfold gcE; rw [if_neg hz]
          obtain ⟨C, rfl⟩ : ∃ C : Nat, c = C := ⟨c.toNat, by omega⟩
          obtain ⟨R, rfl⟩ : ∃ R : Nat, r = R := ⟨r.toNat, by omega⟩
          by_cases hk : k < 0 ∨ (C : Int) * R ≤ k
          · exact ⟨0, 0, 0, 0, 2, ppx_k qa qb qd qe w3 w4 C R k hz0 (by omega) hk, fpx_k qa qb qd qe w3 w4 C R k hz0 (by omega) hk⟩
          · exact ⟨_, _, _, _, 0, rpixel_c ba bb bd be (by omega) w3 w4 (by omega) (by omega) (by omega) (by omega), fpx_c ba bb bd be (by omega) w3 w4 (by omega) (by omega) (by omega) (by omega)⟩
      obtain ⟨y0, y1, y2, y3, g, p1, p2⟩ := pix
      exact law X f g y0 y1 y2 y3 t1 t2 p1 p2 t3
end Go.Nv
end
section
namespace Go.Nv
open Go.Proofs Nw Go.RowKit Go.ChangeAt Go.WideShapes Go.ChangeShapes
open Go.Proofs.YtdjbkccoofcnjaaGreat
set_option maxRecDepth 100000
set_option linter.unusedVariables false
set_option linter.unusedSimpArgs false
section
variable {H : Type} {enc : TypeId × Value → H} {P : Program} {w : World} {base : Nat} {spare : Nat → Bool} {held : Bool}
theorem trodAll_five {t t' t'' t3 t4 : TypeId} {args : Array Value} {ds : List (DataW H)} {ps : List MemPlace} (h : DataW.TrodAll enc P w base spare held [t, t', t'', t3, t4] args.toList ds ps) :
    ∃ v v' v'' v3 v4 d d' d'' d3 d4 p p' p'' p3 p4, args = #[v, v', v'', v3, v4] ∧ ds = [d, d', d'', d3, d4] ∧ ps = p ++ p' ++ p'' ++ p3 ++ p4 ∧ DataW.Trod enc P w base spare held t v d p ∧ DataW.Trod enc P w base spare held t' v' d' p' ∧ DataW.Trod enc P w base spare held t'' v'' d'' p'' ∧ DataW.Trod enc P w base spare held t3 v3 d3 p3 ∧ DataW.Trod enc P w base spare held t4 v4 d4 p4 := by
  obtain ⟨v, vs, d, ds1, p, q, hargs, rfl, rfl, hd, hrest⟩ := trodAll_cons h
  obtain ⟨v', vs', d', ds2, p', q', rfl, rfl, rfl, hd', hrest'⟩ := trodAll_cons hrest
  obtain ⟨v'', vs'', d'', ds0, p'', q'', rfl, rfl, rfl, hd'', hrest''⟩ := trodAll_cons hrest'
  obtain ⟨v3, vs3, d3, ds3, p3, q3, rfl, rfl, rfl, hd3, hrest3⟩ := trodAll_cons hrest''
  obtain ⟨v4, vs4, d4, ds4, p4, q4, rfl, rfl, rfl, hd4, hrest4⟩ := trodAll_cons hrest3
  obtain ⟨rfl, rfl, rfl⟩ := trodAll_nil hrest4
  exact ⟨v, v', v'', v3, v4, d, d', d'', d3, d4, p, p', p'', p3, p4, by cases args; simp_all, rfl, by simp, hd, hd', hd'', hd3, hd4⟩
theorem trodAll_mk5 {t t' t'' t3 t4 : TypeId} {v v' v'' v3 v4 : Value} {d d' d'' d3 d4 : DataW H} {p p' p'' p3 p4 : List MemPlace} (h : DataW.Trod enc P w base spare held t v d p) (h' : DataW.Trod enc P w base spare held t' v' d' p')
    (h'' : DataW.Trod enc P w base spare held t'' v'' d'' p'') (h3 : DataW.Trod enc P w base spare held t3 v3 d3 p3) (h4 : DataW.Trod enc P w base spare held t4 v4 d4 p4) : DataW.TrodAll enc P w base spare held [t, t', t'', t3, t4] [v, v', v'', v3, v4] [d, d', d'', d3, d4] (p ++ (p' ++ (p'' ++ (p3 ++ p4)))) := ⟨p, p' ++ (p'' ++ (p3 ++ p4)), h, trodAll_mk4 h' h'' h3 h4, rfl⟩
end
theorem pixels_lifted (hA : Fun Tryz.prog 12 [] [.v (.bool true)]) (os : Os) (started : os.Started) (H : Type) (enc : TypeId × Value → H) :
    ReturnsInHanded {} Tryz.checked os 4 .any (Rows.rasterPixelsSpec.pre6 enc Tryz.prog Tryz.f4 Rows.rasterPixelsRow.domain false) (Rows.rasterPixelsSpec.post enc Tryz.prog Tryz.f4 false true false false) := by
  refine returnsInHanded_of_change (C := Tryz.checked) tryz_own started (by kernel_rfl) Tryz.func4
    (ChangeSpec.witness6 (enc := enc) (C := Tryz.checked) false ⟨#[], #[.agg #[.bool false, .string ⟨#[]⟩, .string ⟨#[]⟩, .bool false, .string ⟨#[]⟩, .string ⟨#[]⟩, .bool false, .string ⟨#[]⟩, .string ⟨#[]⟩, .bool false, .string ⟨#[]⟩, .string ⟨#[]⟩],
      .agg #[.bool false, .string ⟨#[]⟩, .string ⟨#[]⟩, .bool false, .string ⟨#[]⟩, .string ⟨#[]⟩, .bool false, .string ⟨#[]⟩, .string ⟨#[]⟩, .bool false, .string ⟨#[]⟩, .string ⟨#[]⟩], .int .i64 0, .int .i64 0, .int .i64 0], []⟩ 8 (by kernel_rfl) (by kernel_rfl) (by kernel_rfl) (by kernel_rfl)) ?_
  intro W base args ds gs before hval0 hW hcnd _
  have hval : ∀ (j : Nat) t v, Tryz.f4.params[j]? = some t → args[j]? = some v → Value.okWide Tryz.prog W .any base t v := hval0
  have hW' := hW
  obtain ⟨p, q, hA0, hV, rfl, hfz, hnd⟩ := hW
  have hAr : DataW.TrodAll enc Tryz.prog W 0 (fun _ => true) true Tryz.f4.params.toList args.toList ds p := hA0
  rw [Tryz.params4] at hAr hval
  obtain ⟨v0, v1, v2, v3, v4, d0, d1, d2, d3, d4, p0, p1, p2, p3, p4, rfl, rfl, rfl, h0, h1, h2, h3, h4⟩ := trodAll_five hAr
  obtain ⟨rfl, rfl⟩ := trodVars_none hV
  clear hA0 hval0
  obtain ⟨pp, qq, uu, vv, e0⟩ := quad_den Tryz.underlying46 (by kernel_rfl) (by kernel_rfl) (hval 0 46 v0 rfl rfl)
  obtain ⟨aa, bb, cc, dd, e1⟩ := quad_den Tryz.underlying31 (by kernel_rfl) (by kernel_rfl) (hval 1 31 v1 rfl rfl)
  obtain ⟨m, rfl⟩ := cell_int Tryz.underlying3 (hval 2 3 v2 rfl rfl)
  obtain ⟨n, rfl⟩ := cell_int Tryz.underlying3 (hval 3 3 v3 rfl rfl)
  obtain ⟨k, rfl⟩ := cell_int Tryz.underlying3 (hval 4 3 v4 rfl rfl)
  have hd : DenL W (fun _ => True) [quR pp qq uu vv, quR aa bb cc dd, i64 m, i64 n, i64 k] [v0, v1, .int .i64 m, .int .i64 n, .int .i64 k] := .cons (e0 _ _) (.cons (e1 _ _) (.cons (.v rfl) (.cons (.v rfl) (.cons (.v rfl) (.nil _ _)))))
  refine ((law4 hA pp qq uu vv aa bb cc dd m n k).2 W _ _ hd).mono fun e W' hr => ?_
  obtain ⟨v, rfl, hv, hb⟩ := hr
  obtain rfl : v = .bool true := by cases hv; rfl
  have hlt : ∀ x ∈ p0 ++ p1 ++ p2 ++ p3 ++ p4, x.block < W.heap.size := fun x hx => hW'.lt x (by simpa using hx)
  refine ⟨_, rfl, post_below (pa := p0 ++ (p1 ++ (p2 ++ (p3 ++ p4)))) (pv := []) hW' (by simp) hb (fun _ _ _ => trodAll_mk1 (shut_bool Tryz.underlying4 _)) (fun sp hsp => ?_) (fun _ _ => rfl) (ok_one (by kernel_rfl) rfl (okWide_bool_mk Tryz.underlying4 _))⟩
  have st : ∀ {t : TypeId} {v : Value} {d : DataW H} {ps : List MemPlace}, Tryz.prog.readableRec t = true → t < Tryz.prog.types.size → DataW.Trod enc Tryz.prog W 0 (fun _ => true) true t v d ps → (∀ x ∈ ps, x ∈ p0 ++ p1 ++ p2 ++ p3 ++ p4) → DataW.Trod enc Tryz.prog W' 0 sp true t v d ps :=
    fun hr hrow h hin => WideElems.Trod_stays tryz_laid hr hrow h (fun x hx => hb.same (hlt x (hin x hx))) (fun x hx => hsp x (by simpa using hin x hx))
  rw [Tryz.params4]
  exact trodAll_mk5 (st (by kernel_rfl) (of_decide_eq_true (by kernel_rfl)) h0 (fun x hx => by simp [hx])) (st (by kernel_rfl) (of_decide_eq_true (by kernel_rfl)) h1 (fun x hx => by simp [hx])) (st (by kernel_rfl) (of_decide_eq_true (by kernel_rfl)) h2 (fun x hx => by simp [hx])) (st (by kernel_rfl) (of_decide_eq_true (by kernel_rfl)) h3 (fun x hx => by simp [hx])) (st (by kernel_rfl) (of_decide_eq_true (by kernel_rfl)) h4 (fun x hx => by simp [hx]))
end Go.Nv
end
