import Derived.Test.YtdjbkccoofcnjaaGreatNvC7
import Derived.Test.YtdjbkccoofcnjaaGreatNvN5
import Derived.Test.YtdjbkccoofcnjaaGreatNvN6
set_option linter.all false
set_option linter.unusedVariables false
set_option linter.unusedSimpArgs false
section
namespace Go.Nv
open Go.Proofs Nw
set_option maxRecDepth 100000
set_option linter.unusedVariables false
set_option linter.unusedSimpArgs false
theorem len64_small (x : Nat) (hx : x < 256) : Fun Tryz.prog 273 [u64 x] [i64 (blen x)] := by
  have hl := blen_le (x := x) (k := 8) hx
  refine fun_of_go (fun t => false) mixed tOk Tryz.func273 rfl rfl ?_
  conv => whnf
  refine cond_df (by omega) ?_
  conv => whnf
  refine cond_df (by omega) ?_
  conv => whnf
  refine cond_df (by omega) ?_
  conv => whnf
  have e8 : (x : Int) % 256 = x := by omega
  refine sd_d (by rw [e8]; refine ⟨by omega, ?_⟩; show _ < ((256 : Nat) : Int); omega) ?_
  conv => whnf
  rw [e8, tab_get (i := x) (by kernel_rfl) rfl hx]
  refine sd_d (by omega) ?_
  conv => whnf
  refine sd_d (by omega) ?_
  conv => whnf
  refine ⟨?_, trivial⟩
  conv => whnf
  omega
theorem len_small (x : Nat) (hx : x < 256) : Fun Tryz.prog 189 [u64 x] [i64 (blen x)] := by
  refine fun_of_go (fun t => false) mixed tOk Tryz.func189 rfl rfl ?_
  conv => whnf
  refine call_data rfl rfl (len64_small x hx) ?_
  conv => whnf
  refine ⟨?_, trivial⟩
  conv => whnf
theorem ins2_c {a b : Rat} (ha : Q a) (hb : Q b) (h : a < b) : Fun Tryz.prog 264 [.l [ratD a, ratD b], i64 0, i64 2, .f 34 []] [] := by
  have hu : Uni 3 [ratD a, ratD b] := by intro x hx; simp at hx; rcases hx with rfl | rfl <;> rfl
  have hc : ¬ cmpI b a < 0 := by rw [cmpI_eq]; unfold cmpQ; rw [if_neg (by grind), if_pos h]; omega
  refine fun_of_go (fun t => false) mixed tOk Tryz.func264 rfl rfl ?_
  conv => whnf
  refine sd_d (by omega) ?_
  conv => whnf
  refine unroll 2 (fun t => false) mixed tOk ?_
  conv => whnf
  refine cond_dt (by omega) ?_
  conv => whnf
  refine unroll 1 (fun t => false) mixed tOk ?_
  conv => whnf
  refine cond_dt (by omega) ?_
  conv => whnf
  refine idx_intro (ratD b) rfl (by omega) hu ?_
  conv => whnf
  refine sd_d (by omega) ?_
  conv => whnf
  refine idx_intro (ratD a) rfl (by omega) hu ?_
  conv => whnf
  refine callv_data (cmp_q hb ha) ?_
  conv => whnf
  refine safe_intro (by kernel_rfl) ?_
  conv => whnf
  refine cond_df hc ?_
  conv => whnf
  refine sd_d (by omega) ?_
  conv => whnf
  refine cond_df (by omega) ?_
  conv => whnf
  trivial
theorem sort2_c {a b : Rat} (ha : Q a) (hb : Q b) (h : a < b) : Fun Tryz.prog 104 [.l [ratD a, ratD b], .f 34 []] [] := by
  refine fun_of_go (fun t => false) mixed tOk Tryz.func104 rfl rfl ?_
  conv => whnf
  refine call_eq rfl rfl (len_small 2 (by omega)) rfl ?_
  conv => whnf
  have hp : Fun Tryz.prog 188 [.l [ratD a, ratD b], i64 0, i64 2, i64 (blen 2), .f 34 []] [] := by
    refine fun_of_go (fun t => false) mixed tOk Tryz.func188 rfl rfl ?_
    conv => whnf
    refine unroll 1 (fun t => false) mixed tOk ?_
    conv => whnf
    refine sd_d (by omega) ?_
    conv => whnf
    refine cond_dt (by omega) ?_
    conv => whnf
    refine call_data rfl rfl (ins2_c ha hb h) ?_
    conv => whnf
    trivial
  refine call_eq rfl rfl hp rfl ?_
  conv => whnf
  trivial
theorem cmpt2_c {a b : Rat} (h : a < b) : Fun Tryz.prog 336 [.l [ratD a, ratD b]] [.l [ratD a, ratD b]] := by
  have hu : Uni 3 [ratD a, ratD b] := by intro x hx; simp at hx; rcases hx with rfl | rfl <;> rfl
  refine fun_of_go (fun t => false) mixed tOk Tryz.func336 rfl rfl ?_
  conv => whnf
  refine cond_df (by show ¬ ((2 : Nat) : Int) < 2; omega) ?_
  conv => whnf
  refine unroll 2 (fun t => false) mixed tOk ?_
  conv => whnf
  refine cond_dt (by show (1 : Int) < ((2 : Nat) : Int); omega) ?_
  conv => whnf
  refine idx_intro (ratD b) rfl (by omega) hu ?_
  conv => whnf
  refine sd_d (by omega) ?_
  conv => whnf
  refine idx_intro (ratD a) rfl (by omega) hu ?_
  conv => whnf
  refine safe_intro (by kernel_rfl) ?_
  conv => whnf
  refine cond_bf ?_ ?_
  · show eqDs [.v (.bool (rneg b)), .v (.string (rnum b)), .v (.string (rden b))] [.v (.bool (rneg a)), .v (.string (rnum a)), .v (.string (rden a))] = false
    unfold rneg rnum rden
    rw [eqDs_rd]
    exact decide_eq_false fun e => by have := canon_inj e; subst this; exact Rat.lt_irrefl h
  conv => whnf
  refine sd_d (by omega) ?_
  conv => whnf
  refine cond_df (by show ¬ (1 : Int) + 1 < ((2 : Nat) : Int); omega) ?_
  conv => whnf
  refine ⟨?_, trivial⟩
  conv => whnf
theorem asc2_c {a b : Rat} (ha : Q a) (hb : Q b) (h : a < b) : Fun Tryz.prog 289 [.l [ratD a, ratD b]] [.l [ratD a, ratD b]] := by
  refine fun_of_go (fun t => false) mixed tOk Tryz.func289 rfl rfl ?_
  conv => whnf
  refine call_data rfl rfl (sort2_c ha hb h) ?_
  conv => whnf
  refine call_data rfl rfl (cmpt2_c h) ?_
  conv => whnf
  refine ⟨?_, trivial⟩
  conv => whnf
theorem sortx_c : Fun Tryz.prog 293 [.l [], .f 294 []] [] := by
  have hi : Fun Tryz.prog 355 [.l [], i64 0, i64 0, .f 294 []] [] := by
    refine fun_of_go (fun t => false) mixed tOk Tryz.func355 rfl rfl ?_
    conv => whnf
    refine sd_d (by omega) ?_
    conv => whnf
    refine unroll 1 (fun t => false) mixed tOk ?_
    conv => whnf
    refine cond_df (by omega) ?_
    conv => whnf
    trivial
  have hp : Fun Tryz.prog 338 [.l [], i64 0, i64 0, i64 (blen 0), .f 294 []] [] := by
    refine fun_of_go (fun t => false) mixed tOk Tryz.func338 rfl rfl ?_
    conv => whnf
    refine unroll 1 (fun t => false) mixed tOk ?_
    conv => whnf
    refine sd_d (by omega) ?_
    conv => whnf
    refine cond_dt (by omega) ?_
    conv => whnf
    refine call_data rfl rfl hi ?_
    conv => whnf
    trivial
  refine fun_of_go (fun t => false) mixed tOk Tryz.func293 rfl rfl ?_
  conv => whnf
  refine call_eq rfl rfl (len_small 0 (by omega)) rfl ?_
  conv => whnf
  refine call_eq rfl rfl hp rfl ?_
  conv => whnf
  trivial
abbrev quR (a b c d : RD) : D := .a [.v (.bool a.neg), .v (.string a.num), .v (.string a.den), .v (.bool b.neg), .v (.string b.num), .v (.string b.den),
  .v (.bool c.neg), .v (.string c.num), .v (.string c.den), .v (.bool d.neg), .v (.string d.num), .v (.string d.den)]
@[irreducible] def vbB (a b c d : RD) : Bool := decide (okP a b = 0 ∧ okP c d = 0 ∧ a.val < c.val ∧ b.val < d.val)
theorem cmpI_neg {p q : Rat} : cmpI p q < 0 ↔ p < q := by
  rw [cmpI_eq]; unfold cmpQ; split <;> (try split) <;> simp_all
theorem validBox_c (a b c d : RD) (ha : Sz a) (hb : Sz b) (hc : Sz c) (hd : Sz d) : Fun Tryz.prog 221 [quR a b c d] [.v (.bool (vbB a b c d))] := by
  have fin : ∀ z : Bool, (z = true ↔ okP a b = 0 ∧ okP c d = 0 ∧ a.val < c.val ∧ b.val < d.val) → z = vbB a b c d := fun z hz => by
    unfold vbB
    rw [Bool.eq_iff_iff, hz, decide_eq_true_eq]
  refine fun_of_go (fun t => false) mixed tOk Tryz.func221 rfl rfl ?_
  conv => whnf
  refine call_data rfl rfl (vcheck_c a b ha hb) ?_
  conv => whnf
  refine cond_e (fun h1 => ?_) (fun h1 => ?_)
  · conv => whnf
    refine call_data rfl rfl (vcheck_c c d hc hd) ?_
    conv => whnf
    refine cond_e (fun h2 => ?_) (fun h2 => ?_)
    · conv => whnf
      refine call_data rfl rfl (compare_r a c ha hc) ?_
      conv => whnf
      refine cond_d (fun h3 => ?_) (fun h3 => ?_)
      · conv => whnf
        refine call_data rfl rfl (compare_r b d hb hd) ?_
        conv => whnf
        refine ⟨?_, trivial⟩
        conv => whnf
        rw [bz_eq]
        refine fin _ ?_
        rw [decide_eq_true_eq]
        rw [cmpI_neg] at h3 ⊢
        exact ⟨fun h4 => ⟨h1, h2, h3, h4⟩, fun h4 => h4.2.2.2⟩
      · conv => whnf
        exact ⟨fin false ⟨fun h => by simp at h, fun h => absurd (cmpI_neg.2 h.2.2.1) h3⟩, trivial⟩
    · conv => whnf
      exact ⟨fin false ⟨fun h => by simp at h, fun h => absurd h.2.1 h2⟩, trivial⟩
  · conv => whnf
    exact ⟨fin false ⟨fun h => by simp at h, fun h => absurd h.1 h1⟩, trivial⟩
end Go.Nv
end
section
namespace Go.Nv
open Go.Proofs Nw
set_option maxRecDepth 100000
set_option linter.unusedVariables false
set_option linter.unusedSimpArgs false
theorem clipe_c {x0 y0 x1 y1 : Rat} : Fun Tryz.prog 222 [quD x0 y0 x1 y1, .l []] [.l []] := by
  refine fun_of_go (fun t => false) mixed tOk Tryz.func222 rfl rfl ?_
  conv => whnf
  refine unroll 1 (fun t => false) mixed tOk ?_
  conv => whnf
  refine cond_df (by show ¬ (0 : Int) < ((0 : Nat) : Int); omega) ?_
  conv => whnf
  refine ⟨?_, trivial⟩
  conv => whnf
abbrev blD (x0 y0 x1 y1 : Rat) : D := .a [.v (.bool (rneg x0)), .v (.string (rnum x0)), .v (.string (rden x0)), .v (.bool (rneg y0)), .v (.string (rnum y0)), .v (.string (rden y0)),
  .v (.bool (rneg x1)), .v (.string (rnum x1)), .v (.string (rden x1)), .v (.bool (rneg y1)), .v (.string (rnum y1)), .v (.string (rden y1)), .l []]
theorem absc_c {x0 y0 x1 y1 : Rat} (h0 : Q x0) (h1 : Q x1) (h : x0 < x1) : Fun Tryz.prog 223 [blD x0 y0 x1 y1] [.l [ratD x0, ratD x1]] := by
  refine fun_of_go (fun t => false) mixed tOk Tryz.func223 rfl rfl ?_
  conv => whnf
  refine unroll 1 (fun t => false) mixed tOk ?_
  conv => whnf
  refine cond_df (by show ¬ (0 : Int) < ((0 : Nat) : Int); omega) ?_
  conv => whnf
  refine call_eq rfl rfl (asc2_c h0 h1 h) rfl ?_
  conv => whnf
  refine ⟨?_, trivial⟩
  conv => whnf
theorem ordi_c {x0 y0 x1 y1 x : Rat} (h0 : Q y0) (h1 : Q y1) (h : y0 < y1) : Fun Tryz.prog 224 [blD x0 y0 x1 y1, ratD x] [.l [ratD y0, ratD y1]] := by
  refine fun_of_go (fun t => false) mixed tOk Tryz.func224 rfl rfl ?_
  conv => whnf
  refine unroll 1 (fun t => false) mixed tOk ?_
  conv => whnf
  refine cond_df (by show ¬ (0 : Int) < ((0 : Nat) : Int); omega) ?_
  conv => whnf
  refine call_eq rfl rfl (asc2_c h0 h1 h) rfl ?_
  conv => whnf
  refine ⟨?_, trivial⟩
  conv => whnf
theorem strip_c' {x0 y0 x1 y1 l r : Rat} : Fun Tryz.prog 225 [blD x0 y0 x1 y1, ratD l, ratD r] [.l []] := by
  refine fun_of_go (fun t => false) mixed tOk Tryz.func225 rfl rfl ?_
  conv => whnf
  refine unroll 1 (fun t => false) mixed tOk ?_
  conv => whnf
  refine cond_df (by show ¬ (0 : Int) < ((0 : Nat) : Int); omega) ?_
  conv => whnf
  refine call_frz 1 (call_eq rfl rfl sortx_c rfl ?_)
  conv => whnf
  refine unroll 1 (fun t => false) mixed tOk ?_
  conv => whnf
  refine cond_df (by show ¬ (0 : Int) < ((0 : Nat) : Int); omega) ?_
  conv => whnf
  refine ⟨?_, trivial⟩
  conv => whnf
abbrev slD (x0 y0 x1 y1 : Rat) : D := .a [.v (.bool (rneg x0)), .v (.string (rnum x0)), .v (.string (rden x0)), .v (.bool (rneg y0)), .v (.string (rnum y0)), .v (.string (rden y0)),
  .v (.bool (rneg x1)), .v (.string (rnum x1)), .v (.string (rden x1)), .v (.bool (rneg y1)), .v (.string (rnum y1)), .v (.string (rden y1)), .l [],
  .l [ratD x0, ratD x1], .l [.l [ratD y0, ratD y1], .l [ratD y0, ratD y1]], .l [.l []]]
theorem val_lt {x y : Rat} : (canon x).val < (canon y).val ↔ x < y := by rw [val_canon, val_canon]
theorem quD_eq (x0 y0 x1 y1 : Rat) : quD x0 y0 x1 y1 = quR (canon x0) (canon y0) (canon x1) (canon y1) := by unfold quD quR rneg rnum rden; rfl
set_option maxHeartbeats 2000000 in
theorem build_ok {x0 y0 x1 y1 : Rat} (h0 : Q x0) (h1 : Q y0) (h2 : Q x1) (h3 : Q y1) (hx : x0 < x1) (hy : y0 < y1) : Fun Tryz.prog 126 [quD x0 y0 x1 y1, .l []] [slD x0 y0 x1 y1, i64 0] := by
  have hv := validBox_c (canon x0) (canon y0) (canon x1) (canon y1) h0.sz h1.sz h2.sz h3.sz
  rw [← quD_eq] at hv
  have ev : vbB (canon x0) (canon y0) (canon x1) (canon y1) = true := by
    unfold vbB
    refine decide_eq_true ⟨okP_zero.2 ⟨by rw [val_canon], by rw [val_canon]⟩, okP_zero.2 ⟨by rw [val_canon], by rw [val_canon]⟩, val_lt.2 hx, val_lt.2 hy⟩
  rw [ev] at hv
  have hu : Uni 3 [ratD x0, ratD x1] := by intro x hx; simp at hx; rcases hx with rfl | rfl <;> rfl
  refine fun_of_go (fun t => t == 4 || t == 8 || t == 9 || t == 11) mixed tOk Tryz.func126 rfl rfl ?_
  conv => whnf
  refine call_data rfl rfl hv ?_
  conv => whnf
  refine cond_df (by show ¬ ((0 : Nat) : Int) > 400; omega) ?_
  conv => whnf
  refine unroll 1 (fun t => t == 4 || t == 8 || t == 9 || t == 11) mixed tOk ?_
  conv => whnf
  refine cond_df (by show ¬ (0 : Int) < ((0 : Nat) : Int); omega) ?_
  conv => whnf
  refine callv_data clipe_c ?_
  conv => whnf
  refine safe_intro (by kernel_rfl) ?_
  conv => whnf
  refine callv_data (absc_c h0 h2 hx) ?_
  conv => whnf
  refine safe_intro (by kernel_rfl) ?_
  conv => whnf
  refine okc_own 2 14 34 1 24 ?_
  conv => whnf
  refine okc_own 2 15 47 1 24 ?_
  conv => whnf
  refine unroll 3 (fun t => t == 4 || t == 8 || t == 9 || t == 11) mixed tOk ?_
  conv => whnf
  refine cond_dt (by show (0 : Int) < ((2 : Nat) : Int); omega) ?_
  conv => whnf
  refine idx_intro (ratD x0) rfl (by omega) hu ?_
  conv => whnf
  refine callv_data (ordi_c h1 h3 hy) ?_
  conv => whnf
  refine sd_intro rfl ?_
  conv => whnf
  refine safe_intro (by kernel_rfl) ?_
  conv => whnf
  refine cond_df (by omega) ?_
  conv => whnf
  refine sd_d (by omega) ?_
  conv => whnf
  refine cond_dt (by show (0 : Int) + 1 < ((2 : Nat) : Int); omega) ?_
  conv => whnf
  refine idx_intro (ratD x1) rfl (by omega) hu ?_
  conv => whnf
  refine callv_data (ordi_c h1 h3 hy) ?_
  conv => whnf
  refine sd_intro rfl ?_
  conv => whnf
  refine safe_intro (by kernel_rfl) ?_
  conv => whnf
  refine cond_dt (by omega) ?_
  conv => whnf
  refine sd_d (by omega) ?_
  conv => whnf
  refine idx_intro (ratD x0) rfl (by omega) hu ?_
  conv => whnf
  refine callv_eq strip_c' rfl ?_
  conv => whnf
  refine sd_intro rfl ?_
  conv => whnf
  refine safe_intro (by kernel_rfl) ?_
  conv => whnf
  refine sd_d (by omega) ?_
  conv => whnf
  refine cond_df (by show ¬ (0 : Int) + 1 + 1 < ((2 : Nat) : Int); omega) ?_
  conv => whnf
  refine ⟨?_, ?_, trivial⟩
  · conv => whnf
    exact ⟨rfl, rfl, rfl, rfl, rfl, rfl, rfl, rfl, rfl, rfl, rfl, rfl, rfl, rfl, rfl, rfl, trivial⟩
  · conv => whnf
theorem build_bad (a b c d : RD) (ha : Sz a) (hb : Sz b) (hc : Sz c) (hd : Sz d) (h : vbB a b c d = false) :
    Fun Tryz.prog 126 [quR a b c d, .l []] [.a [.v (.bool false), .v (.string emp), .v (.string emp), .v (.bool false), .v (.string emp), .v (.string emp), .v (.bool false), .v (.string emp), .v (.string emp), .v (.bool false), .v (.string emp), .v (.string emp), .v (.slice none 0 0), .v (.slice none 0 0), .v (.slice none 0 0), .v (.slice none 0 0)], i64 1] := by
  refine fun_of_go (fun t => t == 4 || t == 8 || t == 9 || t == 11) mixed tOk Tryz.func126 rfl rfl ?_
  conv => whnf
  refine call_data rfl rfl (validBox_c a b c d ha hb hc hd) ?_
  conv => whnf
  rw [h]
  conv => whnf
  exact ⟨⟨rfl, rfl, rfl, rfl, rfl, rfl, rfl, rfl, rfl, rfl, rfl, rfl, rfl, rfl, rfl, rfl, trivial⟩, rfl, trivial⟩
end Go.Nv
end
section
namespace Go.Nv
open Go.Proofs Nw
set_option maxRecDepth 100000
set_option linter.unusedVariables false
set_option linter.unusedSimpArgs false
abbrev grD (x y u v : Rat) (c r : Int) : D := .a [.v (.bool (rneg x)), .v (.string (rnum x)), .v (.string (rden x)), .v (.bool (rneg y)), .v (.string (rnum y)), .v (.string (rden y)),
  .v (.bool (rneg u)), .v (.string (rnum u)), .v (.string (rden u)), .v (.bool (rneg v)), .v (.string (rnum v)), .v (.string (rden v)), i64 c, i64 r]
abbrev grR (a b c d : RD) (m n : Int) : D := .a [.v (.bool a.neg), .v (.string a.num), .v (.string a.den), .v (.bool b.neg), .v (.string b.num), .v (.string b.den),
  .v (.bool c.neg), .v (.string c.num), .v (.string c.den), .v (.bool d.neg), .v (.string d.num), .v (.string d.den), i64 m, i64 n]
theorem Bd.ratio {a b : Int} (ha : a.natAbs ≤ 256) (hb : b.natAbs ≤ 256) : Bd 2 (Rat.divInt a b) := by
  rw [Rat.divInt_eq_div]
  exact (bd_int a (n := 1) (by simpa using ha)).div (bd_int b (n := 1) (by simpa using hb))
theorem pix1_c {x y : Rat} {a b : Int} {n : Nat} (hx : Bd n x) (hy : Bd n y) (hn : n < 1000000000) (ha : a.natAbs ≤ 256) (hb : b.natAbs ≤ 256) :
    Fun Tryz.prog 153 [ratD x, ratD y, i64 a, i64 b] [ratD (x + Rat.divInt a b * (y - x))] := by
  have ht := Bd.ratio ha hb
  refine fun_of_go (fun t => t == 4 || t == 5 || t == 8 || t == 9) mixed tOk Tryz.func153 rfl rfl ?_
  conv => whnf
  refine call_data rfl rfl (ratio_r a b (by omega) (by omega)) ?_
  conv => whnf
  refine callv_data (sub_q (.mk hy (by omega)) (.mk hx (by omega))) ?_
  conv => whnf
  refine callv_data (mul_q (.mk ht (by omega)) (.mk (hy.sub hx) (by omega))) ?_
  conv => whnf
  refine callv_data (add_q (.mk hx (by omega)) (.mk (ht.mul (hy.sub hx)) (by omega))) ?_
  conv => whnf
  refine safe_intro (by kernel_rfl) ?_
  conv => whnf
  refine ⟨?_, trivial⟩
  conv => whnf
  exact ⟨rfl, rfl, rfl, trivial⟩
theorem pix2_c {x0 y0 x1 y1 : Rat} {c r a b : Int} {n : Nat} (h0 : Bd n x0) (h1 : Bd n y0) (h2 : Bd n x1) (h3 : Bd n y1) (hn : n < 1000000000) (ha : a.natAbs ≤ 256) (hb : b.natAbs ≤ 256) (hc : c.natAbs ≤ 256) (hr : r.natAbs ≤ 256) :
    Fun Tryz.prog 154 [i64 a, i64 b, .p 0 [.f 153 []], .p 0 (grD x0 y0 x1 y1 c r).cells] [ptD (x0 + Rat.divInt a c * (x1 - x0)) (y1 + Rat.divInt b r * (y0 - y1))] := by
  refine fun_of_go (fun t => t == 6) mixed tOk Tryz.func154 rfl rfl ?_
  conv => whnf
  refine callv_data (pix1_c h0 h2 hn ha hc) ?_
  conv => whnf
  refine callv_data (pix1_c h3 h1 hn hb hr) ?_
  conv => whnf
  refine safe_intro (by kernel_rfl) ?_
  conv => whnf
  refine ⟨?_, trivial⟩
  conv => whnf
  exact ⟨rfl, rfl, rfl, rfl, rfl, rfl, trivial⟩
def pxX (x0 x1 : Rat) (c i : Int) : Rat := x0 + Rat.divInt i c * (x1 - x0)
def pxY (y0 y1 : Rat) (r i : Int) : Rat := y1 + Rat.divInt i r * (y0 - y1)
theorem pixel_c {x0 y0 x1 y1 : Rat} {c r a b : Int} {n : Nat} (h0 : Bd n x0) (h1 : Bd n y0) (h2 : Bd n x1) (h3 : Bd n y1) (hn : n < 1000000000) (ha : a.natAbs < 256) (hb : b.natAbs < 256) (hc : c.natAbs ≤ 256) (hr : r.natAbs ≤ 256) :
    Fun Tryz.prog 77 [grD x0 y0 x1 y1 c r, i64 a, i64 b] [quD (pxX x0 x1 c a) (pxY y0 y1 r (b + 1)) (pxX x0 x1 c (a + 1)) (pxY y0 y1 r b)] := by
  refine fun_of_go (fun t => t == 3 || t == 6 || t == 7) mixed tOk Tryz.func77 rfl rfl ?_
  conv => whnf
  refine sd_d (by omega) ?_
  conv => whnf
  refine call_lend rfl rfl (pix2_c h0 h1 h2 h3 hn (by omega) (by omega) hc hr) rfl ?_
  conv => whnf
  refine sd_d (by omega) ?_
  conv => whnf
  refine call_lend rfl rfl (pix2_c h0 h1 h2 h3 hn (by omega) (by omega) hc hr) rfl ?_
  conv => whnf
  refine ⟨?_, trivial⟩
  conv => whnf
  unfold pxX pxY
  exact ⟨rfl, rfl, rfl, rfl, rfl, rfl, rfl, rfl, rfl, rfl, rfl, rfl, trivial⟩
@[irreducible] def gcE (c r : Int) : Int := if c < 1 ∨ c > 128 ∨ r < 1 ∨ r > 128 then 2 else 0
theorem gchk0 {x0 y0 x1 y1 : Rat} {c r : Int} (h0 : Q x0) (h1 : Q y0) (h2 : Q x1) (h3 : Q y1) (hx : x0 < x1) (hy : y0 < y1) : Fun Tryz.prog 55 [grD x0 y0 x1 y1 c r, .v (.bool false)] [i64 1] := by
  refine fun_of_go (fun t => t == 2 || t == 5) mixed tOk Tryz.func55 rfl rfl ?_
  conv => whnf
  refine call_data rfl rfl (build_ok h0 h1 h2 h3 hx hy) ?_
  conv => whnf
  exact ⟨rfl, trivial⟩
theorem gchk1 {x0 y0 x1 y1 : Rat} {c r : Int} (h0 : Q x0) (h1 : Q y0) (h2 : Q x1) (h3 : Q y1) (hx : x0 < x1) (hy : y0 < y1) : Fun Tryz.prog 55 [grD x0 y0 x1 y1 c r, .v (.bool true)] [i64 (gcE c r)] := by
  have e2 : (c < 1 ∨ c > 128 ∨ r < 1 ∨ r > 128) → gcE c r = 2 := fun h => by unfold gcE; rw [if_pos h]
  have e0 : ¬ (c < 1 ∨ c > 128 ∨ r < 1 ∨ r > 128) → gcE c r = 0 := fun h => by unfold gcE; rw [if_neg h]
  refine fun_of_go (fun t => t == 2 || t == 5) mixed tOk Tryz.func55 rfl rfl ?_
  conv => whnf
  refine call_data rfl rfl (build_ok h0 h1 h2 h3 hx hy) ?_
  conv => whnf
  refine cond_bf (by decide) ?_
  conv => whnf
  refine cond_d (fun k1 => ?_) (fun k1 => ?_)
  · rw [e2 (.inl k1)]
    conv => whnf
    exact ⟨rfl, trivial⟩
  conv => whnf
  refine cond_d (fun k2 => ?_) (fun k2 => ?_)
  · rw [e2 (.inr (.inl k2))]
    conv => whnf
    exact ⟨rfl, trivial⟩
  conv => whnf
  refine cond_d (fun k3 => ?_) (fun k3 => ?_)
  · rw [e2 (.inr (.inr (.inl k3)))]
    conv => whnf
    exact ⟨rfl, trivial⟩
  conv => whnf
  refine cond_d (fun k4 => ?_) (fun k4 => ?_)
  · rw [e2 (.inr (.inr (.inr k4)))]
    conv => whnf
    exact ⟨rfl, trivial⟩
  rw [e0 (by omega)]
  conv => whnf
  exact ⟨rfl, trivial⟩
theorem gchkx (a b c d : RD) (ha : Sz a) (hb : Sz b) (hc : Sz c) (hd : Sz d) (h : vbB a b c d = false) (m n : Int) (z : Bool) : Fun Tryz.prog 55 [grR a b c d m n, .v (.bool z)] [i64 1] := by
  cases z
  · refine fun_of_go (fun t => t == 2 || t == 5) mixed tOk Tryz.func55 rfl rfl ?_
    conv => whnf
    refine call_data rfl rfl (build_bad a b c d ha hb hc hd h) ?_
    conv => whnf
    exact ⟨rfl, trivial⟩
  · refine fun_of_go (fun t => t == 2 || t == 5) mixed tOk Tryz.func55 rfl rfl ?_
    conv => whnf
    refine call_data rfl rfl (build_bad a b c d ha hb hc hd h) ?_
    conv => whnf
    refine cond_bt (by decide) ?_
    conv => whnf
    exact ⟨rfl, trivial⟩
end Go.Nv
end
section
namespace Go.Nv
open Go.Proofs Nw
set_option maxRecDepth 100000
set_option linter.unusedVariables false
set_option linter.unusedSimpArgs false
theorem pixels_c {x0 y0 x1 y1 : Rat} {c r : Int} : Fun Tryz.prog 72 [grD x0 y0 x1 y1 c r] [.f 145 [.p 0 (grD x0 y0 x1 y1 c r).cells]] := by
  refine fun_of_go (fun t => false) mixed tOk Tryz.func72 rfl rfl ?_
  conv => whnf
  refine ⟨?_, trivial⟩
  conv => whnf
theorem vcheck_q {x y : Rat} (hx : Q x) (hy : Q y) : Fun Tryz.prog 49 [ptD x y] [i64 0] := by
  have h := vcheck_c (canon x) (canon y) hx.sz hy.sz
  rw [okP_zero.2 ⟨by rw [val_canon], by rw [val_canon]⟩] at h
  have e : ptD x y = ptR (canon x) (canon y) := by unfold ptD ptR rneg rnum rden; rfl
  rw [e]; exact h
theorem eqDs_pt (r s t w : RD) : eqDs [.v (.bool r.neg), .v (.string r.num), .v (.string r.den), .v (.bool s.neg), .v (.string s.num), .v (.string s.den)] [.v (.bool t.neg), .v (.string t.num), .v (.string t.den), .v (.bool w.neg), .v (.string w.num), .v (.string w.den)] = decide (r = t ∧ s = w) := by
  obtain ⟨a, b, c⟩ := r
  obtain ⟨a', b', c'⟩ := s
  obtain ⟨u, v, w1⟩ := t
  obtain ⟨u', v', w1'⟩ := w
  simp only [eqDs, eqD, eqV, byt_beq, Bool.and_true, RD.mk.injEq]
  rw [Bool.eq_iff_iff]
  simp only [Bool.and_eq_true, decide_eq_true_eq, beq_iff_eq]
  constructor
  · rintro ⟨h1, h2, h3, h4, h5, h6⟩; exact ⟨⟨h1, h2, h3⟩, h4, h5, h6⟩
  · rintro ⟨⟨h1, h2, h3⟩, h4, h5, h6⟩; exact ⟨h1, h2, h3, h4, h5, h6⟩
theorem eqDs_ptq (x y u v : Rat) : eqDs [.v (.bool (rneg x)), .v (.string (rnum x)), .v (.string (rden x)), .v (.bool (rneg y)), .v (.string (rnum y)), .v (.string (rden y))] [.v (.bool (rneg u)), .v (.string (rnum u)), .v (.string (rden u)), .v (.bool (rneg v)), .v (.string (rnum v)), .v (.string (rden v))] = decide (x = u ∧ y = v) := by
  unfold rneg rnum rden
  rw [eqDs_pt, decide_eq_decide]
  constructor
  · rintro ⟨h1, h2⟩; have h3 := congrArg RD.val h1; have h4 := congrArg RD.val h2; rw [val_canon, val_canon] at h3 h4; exact ⟨h3, h4⟩
  · rintro ⟨rfl, rfl⟩; exact ⟨rfl, rfl⟩
def tcB (x0 y0 x1 y1 : Rat) (c r : Int) (xa ya xb yb : Rat) (i : Nat) : Bool :=
  clB (pxX x0 x1 c (Int.tmod i c)) (pxY y0 y1 r (Int.tdiv i c + 1)) (pxX x0 x1 c (Int.tmod i c + 1)) (pxY y0 y1 r (Int.tdiv i c)) xa ya xb yb
def tlD (x0 y0 x1 y1 : Rat) (c r : Int) (xa ya xb yb : Rat) (n : Nat) : List D := ((List.range n).filter (tcB x0 y0 x1 y1 c r xa ya xb yb)).map fun i : Nat => i64 (i : Int)
theorem pxX_bd {x0 x1 : Rat} {c i : Int} {n : Nat} (h0 : Bd n x0) (h1 : Bd n x1) (hc : c.natAbs ≤ 256) (hi : i.natAbs ≤ 256) : Bd (3 * n + 4) (pxX x0 x1 c i) :=
  (h0.add ((Bd.ratio hi hc).mul (h1.sub h0))).mono (by omega)
theorem pxY_bd {x0 x1 : Rat} {c i : Int} {n : Nat} (h0 : Bd n x0) (h1 : Bd n x1) (hc : c.natAbs ≤ 256) (hi : i.natAbs ≤ 256) : Bd (3 * n + 4) (pxY x0 x1 c i) :=
  (h1.add ((Bd.ratio hi hc).mul (h0.sub h1))).mono (by omega)
def rngs : Code → List (Code × Code)
  | .seq a b => rngs a ++ rngs b
  | .block _ b => rngs b
  | .rangeFunc _ _ a b => [(a, b)]
  | _ => []
noncomputable def rf20 : Code × Code := match Tryz.f20.body with
  | some c => match rngs c with
    | p :: _ => p
    | [] => (.skip, .skip)
  | none => (.skip, .skip)
noncomputable def tchSt (x0 y0 x1 y1 xa ya xb yb : Rat) (c r : Int) (i : Nat) : St :=
  ⟨fr 27 [(0, .own 4 0), (1, .d (.p 0 (grD x0 y0 x1 y1 c r).cells)), (8, .d (i64 (c * r))), (9, .d (i64 i))],
   [.dead, .dead, .box 47 [.own 3 0], .row 0 3 1 8 (tlD x0 y0 x1 y1 c r xa ya xb yb i),
    .loop .ready none #[44, 45] rf20.1 rf20.2 (fr 59 [(4, .d (.p 0 (quD xa ya xb yb).cells)), (9, .d (i64 0)), (12, .ptr 2 0 0)])]⟩
end Go.Nv
end
section
namespace Go.Nv
open Go.Proofs Nw
set_option maxRecDepth 100000
set_option linter.unusedVariables false
set_option linter.unusedSimpArgs false
end Go.Nv
end
