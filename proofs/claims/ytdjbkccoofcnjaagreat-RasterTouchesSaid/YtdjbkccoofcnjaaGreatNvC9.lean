import Derived.Test.YtdjbkccoofcnjaaGreatNvC8
set_option linter.all false
set_option linter.unusedVariables false
set_option linter.unusedSimpArgs false
section
namespace Go.Nv
open Go.Proofs Nw
set_option maxRecDepth 100000
set_option linter.unusedVariables false
set_option linter.unusedSimpArgs false
theorem rpixel_c {x0 y0 x1 y1 : Rat} {c r k : Int} {n : Nat} (h0 : Bd n x0) (h1 : Bd n y0) (h2 : Bd n x1) (h3 : Bd n y1) (hn : n < 100000000)
    (hx : x0 < x1) (hy : y0 < y1) (hcr : 1 ≤ c ∧ c ≤ 128) (hrr : 1 ≤ r ∧ r ≤ 128) (hk : 0 ≤ k) (hlt : k < c * r) :
    Fun Tryz.prog 22 [quD x0 y0 x1 y1, i64 c, i64 r, i64 k] [quD (pxX x0 x1 c (Int.tmod k c)) (pxY y0 y1 r (Int.tdiv k c + 1)) (pxX x0 x1 c (Int.tmod k c + 1)) (pxY y0 y1 r (Int.tdiv k c)), i64 0] := by
  have q0 : Q x0 := .mk h0 (by omega)
  have q1 : Q y0 := .mk h1 (by omega)
  have q2 : Q x1 := .mk h2 (by omega)
  have q3 : Q y1 := .mk h3 (by omega)
  have hg := gchk1 q0 q1 q2 q3 hx hy (c := c) (r := r)
  rw [show gcE c r = 0 by unfold gcE; rw [if_neg (by omega)]] at hg
  have k1 : c * r ≤ 128 * 128 := Int.mul_le_mul hcr.2 hrr.2 (by omega) (by omega)
  have d1 := Int.tmod_nonneg (b := c) (a := k) (by omega)
  have d2 := Int.tmod_lt_of_pos k (b := c) (by omega)
  have d3 : 0 ≤ Int.tdiv k c := Int.tdiv_nonneg (by omega) (by omega)
  have d4 : Int.tdiv k c < r := by
    rw [Int.tdiv_eq_ediv_of_nonneg (by omega)]
    exact Int.ediv_lt_of_lt_mul (by omega) (by rw [Int.mul_comm]; exact hlt)
  refine fun_of_go (fun t => t == 4 || t == 8 || t == 10) mixed tOk Tryz.func22 rfl rfl ?_
  conv => whnf
  refine call_data rfl rfl hg ?_
  conv => whnf
  refine cond_bf (by decide) ?_
  conv => whnf
  refine cond_df (by omega) ?_
  conv => whnf
  refine sd_d (by omega) ?_
  conv => whnf
  refine cond_df (by omega) ?_
  conv => whnf
  refine sd_d (by omega) ?_
  conv => whnf
  refine sd_dd (by omega) (by omega) ?_
  conv => whnf
  refine callv_data (pixel_c h0 h1 h2 h3 (by omega) (by omega) (by omega) (by omega) (by omega)) ?_
  conv => whnf
  refine safe_intro (by kernel_rfl) ?_
  conv => whnf
  refine ⟨?_, ?_, trivial⟩
  · conv => whnf
    exact ⟨rfl, rfl, rfl, rfl, rfl, rfl, rfl, rfl, rfl, rfl, rfl, rfl, trivial⟩
  · conv => whnf
theorem i64_uni (xs : List Int) : Uni 1 (xs.map i64) := by
  intro x hx
  obtain ⟨i, _, rfl⟩ := List.mem_map.1 hx
  rfl
/-- A row of numbers is alike to itself. -/
theorem equal_c (xs : List Int) (hxs : xs.length < 1000000) : Fun Tryz.prog 24 [.l (xs.map i64), .l (xs.map i64)] [.v (.bool true)] := by
  have hl : (xs.map i64).length = xs.length := by simp
  refine fun_of_go (fun t => false) mixed tOk Tryz.func24 rfl rfl ?_
  conv => whnf
  refine cond_ne (fun h => absurd rfl h) (fun _ => ?_)
  conv => whnf
  refine loop_intro (fun t => false) (fun i : Nat => ⟨fr 26 [(0, .d (.l (xs.map i64))), (1, .d (.l (xs.map i64))), (12, .d (i64 (xs.map i64).length)), (13, .d (i64 i))], []⟩) (fun i => i ≤ xs.length) (fun i => xs.length - i) 0 mixed tOk (by omega) ?_ ?_
  · refine weak_r ?_ ?_ <;> repeat' (first | exact trivial | exact rfl | refine And.intro ?_ ?_)
  · intro i hi
    conv => whnf
    refine cond_d (fun hlt => ?_) (fun hge => ?_)
    · have hlt' : i < xs.length := by omega
      have hg : (xs.map i64)[(i : Int).toNat]? = some (i64 xs[i]) := by simp [hlt']
      conv => whnf
      refine idx_intro (i64 xs[i]) hg (by omega) (i64_uni xs) ?_
      conv => whnf
      refine idx_intro (i64 xs[i]) hg (by omega) (i64_uni xs) ?_
      conv => whnf
      refine safe_intro (by kernel_rfl) ?_
      conv => whnf
      refine cond_ne (fun h => absurd rfl h) (fun _ => ?_)
      conv => whnf
      refine sd_d (by omega) ?_
      conv => whnf
      refine ⟨i + 1, by omega, by omega, ?_⟩
      rw [Int.natCast_succ]
      refine weak_r ?_ ?_ <;> repeat' (first | exact trivial | exact rfl | refine And.intro ?_ ?_)
    · conv => whnf
      exact ⟨rfl, trivial⟩
end Go.Nv
end
section
namespace Go.Nv
open Go.Proofs Nw
set_option maxRecDepth 100000
set_option linter.unusedVariables false
set_option linter.unusedSimpArgs false
abbrev nilD : D := .v (.slice none 0 0)
theorem fun_arg {P : Program} {g : FuncId} {xs ys res : List D} (k : Fun P g ys res) (h : ∀ (W : World) (ok : Nat → Prop) (us : List Value), DenL W ok xs us → DenL W ok ys us) : Fun P g xs res := ⟨k.1, fun W ok us hd => k.2 W ok us (h W ok us hd)⟩
theorem den_nil {W : World} {ok : Nat → Prop} {v : Value} (h : Den W ok nilD v) : Den W ok (.l []) v := by
  cases h
  exact .l0 (by simp) fun _ => rfl
theorem den_nils {W : World} {ok : Nat → Prop} {v : Value} (h : Den W ok (.a [nilD, nilD]) v) : Den W ok (.a [.l [], .l []]) v := by
  cases h with
  | a h1 h2 h3 =>
    refine .a h1 (fun i c u hc hu => ?_) h3
    match i with
    | 0 => simp at hc; subst hc; exact den_nil (h2 0 _ _ rfl hu)
    | 1 => simp at hc; subst hc; exact den_nil (h2 1 _ _ rfl hu)
    | i + 2 => simp at hc
/-- No points. -/
theorem great0 : Fun Tryz.prog 39 [.l []] [.v (.bool false)] := by
  refine fun_of_go (fun t => false) mixed tOk Tryz.func39 rfl rfl ?_
  conv => whnf
  refine unroll 1 (fun t => false) mixed tOk ?_
  conv => whnf
  refine cond_df (by show ¬ (0 : Int) < ((0 : Nat) : Int); omega) ?_
  conv => whnf
  exact ⟨rfl, trivial⟩
/-- Too long a coordinate. -/
def gtR (r : RD) : Bool := decide (12 < r.num.size) || decide (12 < r.den.size)
def gtP (p : RD × RD) : Bool := gtR p.1 || gtR p.2
theorem great7 (ps : List (RD × RD)) (hl : ps.length < 1000) : Fun Tryz.prog 39 [.l (ps.map fun p => ptR p.1 p.2)] [.v (.bool (ps.any gtP))] := by
  have hll : (ps.map fun p => ptR p.1 p.2).length = ps.length := by simp
  have hu : Uni 6 (ps.map fun p => ptR p.1 p.2) := by
    intro x hx
    obtain ⟨p, _, rfl⟩ := List.mem_map.1 hx
    rfl
  refine fun_of_go (fun t => false) mixed tOk Tryz.func39 rfl rfl ?_
  conv => whnf
  refine loop_intro (fun t => false) (fun i : Nat => ⟨fr 48 [(0, .d (.l (ps.map fun p => ptR p.1 p.2))), (3, .d (i64 i))], []⟩) (fun i => i ≤ ps.length ∧ (ps.take i).any gtP = false) (fun i => ps.length - i) 0 mixed tOk ⟨by omega, rfl⟩ ?_ ?_
  · refine weak_r ?_ ?_ <;> repeat' (first | exact trivial | exact rfl | refine And.intro ?_ ?_)
  · rintro i ⟨hi, hno⟩
    conv => whnf
    refine cond_d (fun hlt => ?_) (fun hge => ?_)
    · have hlt' : i < ps.length := by omega
      have hg : (ps.map fun p => ptR p.1 p.2)[(i : Int).toNat]? = some (ptR ps[i].1 ps[i].2) := by simp [hlt']
      have yes : gtP ps[i] = true → ps.any gtP = true := fun h => List.any_eq_true.2 ⟨ps[i], List.getElem_mem _, h⟩
      conv => whnf
      refine idx_intro (ptR ps[i].1 ps[i].2) hg (by omega) hu ?_
      conv => whnf
      refine cond_d (fun k1 => ?_) (fun k1 => ?_)
      · rw [yes (by unfold gtP gtR; simp; omega)]
        conv => whnf
        exact ⟨rfl, trivial⟩
      conv => whnf
      refine idx_intro (ptR ps[i].1 ps[i].2) hg (by omega) hu ?_
      conv => whnf
      refine cond_d (fun k2 => ?_) (fun k2 => ?_)
      · rw [yes (by unfold gtP gtR; simp; omega)]
        conv => whnf
        exact ⟨rfl, trivial⟩
      conv => whnf
      refine idx_intro (ptR ps[i].1 ps[i].2) hg (by omega) hu ?_
      conv => whnf
      refine cond_d (fun k3 => ?_) (fun k3 => ?_)
      · rw [yes (by unfold gtP gtR; simp; omega)]
        conv => whnf
        exact ⟨rfl, trivial⟩
      conv => whnf
      refine idx_intro (ptR ps[i].1 ps[i].2) hg (by omega) hu ?_
      conv => whnf
      refine cond_d (fun k4 => ?_) (fun k4 => ?_)
      · rw [yes (by unfold gtP gtR; simp; omega)]
        conv => whnf
        exact ⟨rfl, trivial⟩
      conv => whnf
      refine sd_d (by omega) ?_
      conv => whnf
      refine ⟨i + 1, ⟨by omega, ?_⟩, by omega, ?_⟩
      · rw [List.take_succ_eq_append_getElem hlt', List.any_append, hno]
        unfold gtP gtR
        simp
        omega
      rw [Int.natCast_succ]
      refine weak_r ?_ ?_ <;> repeat' (first | exact trivial | exact rfl | refine And.intro ?_ ?_)
    · have : i = ps.length := by omega
      subst this
      rw [List.take_length] at hno
      rw [hno]
      conv => whnf
      exact ⟨rfl, trivial⟩
abbrev wk0 : D := .a [.l [], .l []]
theorem great11 : Fun Tryz.prog 102 [wk0] [.v (.bool false)] := by
  refine fun_of_go (fun t => false) mixed tOk Tryz.func102 rfl rfl ?_
  conv => whnf
  refine cond_df (by show ¬ ((0 : Nat) : Int) > 10; omega) ?_
  conv => whnf
  refine cond_df (by show ¬ ((0 : Nat) : Int) > 67; omega) ?_
  conv => whnf
  refine call_data rfl rfl great0 ?_
  conv => whnf
  refine unroll 1 (fun t => false) mixed tOk ?_
  conv => whnf
  refine cond_df (by show ¬ (0 : Int) < ((0 : Nat) : Int); omega) ?_
  conv => whnf
  refine cond_df (by show ¬ ((0 : Nat) : Int) > 3; omega) ?_
  conv => whnf
  refine ⟨?_, trivial⟩
  conv => whnf
  rw [bz_eq]
  rfl
theorem great22 : Fun Tryz.prog 38 [wk0] [.v (.bool false)] := by
  refine fun_of_go (fun t => false) mixed tOk Tryz.func38 rfl rfl ?_
  conv => whnf
  refine call_data rfl rfl great11 ?_
  conv => whnf
  refine unroll 1 (fun t => false) mixed tOk ?_
  conv => whnf
  refine cond_df (by show ¬ (0 : Int) < ((0 : Nat) : Int); omega) ?_
  conv => whnf
  refine cond_df (by show ¬ ((0 : Nat) : Int) > 12; omega) ?_
  conv => whnf
  exact ⟨rfl, trivial⟩
/-- Too great an input. -/
def gtT (ps : List (RD × RD)) (c r : Int) : Bool := ps.any gtP || decide (1 ≤ c ∧ c ≤ 128 ∧ 1 ≤ r ∧ r ≤ 128 ∧ 36 < c * r)
theorem great_c (ps : List (RD × RD)) (hl : ps.length < 1000) (c r : Int) : Fun Tryz.prog 11 [wk0, i64 c, i64 r, .l (ps.map fun p => ptR p.1 p.2)] [.v (.bool (gtT ps c r))] := by
  refine fun_of_go (fun t => false) mixed tOk Tryz.func11 rfl rfl ?_
  conv => whnf
  refine call_data rfl rfl great22 ?_
  conv => whnf
  refine call_data rfl rfl (great7 ps hl) ?_
  conv => whnf
  have no : ps.any gtP = false → ¬ (1 ≤ c ∧ c ≤ 128 ∧ 1 ≤ r ∧ r ≤ 128 ∧ 36 < c * r) → gtT ps c r = false := fun h1 h2 => by unfold gtT; rw [h1, decide_eq_false h2]; rfl
  refine cond_intro (fun h => ?_) (fun h => ?_)
  · rw [show gtT ps c r = true by unfold gtT; rw [h]; rfl]
    conv => whnf
    exact ⟨rfl, trivial⟩
  conv => whnf
  refine cond_d (fun k1 => ?_) (fun k1 => ?_)
  rotate_left
  · rw [no h (by omega)]
    conv => whnf
    exact ⟨rfl, trivial⟩
  conv => whnf
  refine cond_d (fun k2 => ?_) (fun k2 => ?_)
  rotate_left
  · rw [no h (by omega)]
    conv => whnf
    exact ⟨rfl, trivial⟩
  conv => whnf
  refine cond_d (fun k3 => ?_) (fun k3 => ?_)
  rotate_left
  · rw [no h (by omega)]
    conv => whnf
    exact ⟨rfl, trivial⟩
  conv => whnf
  refine cond_d (fun k4 => ?_) (fun k4 => ?_)
  rotate_left
  · rw [no h (by omega)]
    conv => whnf
    exact ⟨rfl, trivial⟩
  conv => whnf
  have m1 : c * r ≤ 128 * 128 := Int.mul_le_mul k2 k4 (by omega) (by omega)
  have m2 : 0 < c * r := Int.mul_pos (by omega) (by omega)
  refine sd_d (by omega) ?_
  conv => whnf
  refine ⟨?_, trivial⟩
  conv => whnf
  rw [bz_eq]
  unfold gtT
  rw [h]
  simp only [Bool.false_or, decide_eq_decide]
  omega
end Go.Nv
end
section
namespace Go.Nv
open Go.Proofs Nw
set_option maxRecDepth 100000
set_option linter.unusedVariables false
set_option linter.unusedSimpArgs false
theorem den_args {W : World} {ok : Nat → Prop} {xs : List D} {us : List Value} (h : DenL W ok (.a [nilD, nilD] :: xs) us) : DenL W ok (wk0 :: xs) us := by
  cases us with
  | nil => have := h.1; simp at this
  | cons u us =>
    refine ⟨by simpa using h.1, fun i c u' hc hu => ?_⟩
    cases i with
    | zero => simp at hc hu; subst hc; subst hu; exact den_nils (h.2 0 _ _ rfl rfl)
    | succ i => exact h.2 (i + 1) c u' (by simpa using hc) hu
theorem great_w (ps : List (RD × RD)) (hl : ps.length < 1000) (c r : Int) : Fun Tryz.prog 11 [.a [nilD, nilD], i64 c, i64 r, .l (ps.map fun p => ptR p.1 p.2)] [.v (.bool (gtT ps c r))] :=
  fun_arg (great_c ps hl c r) fun _ _ _ h => den_args h
/-- The ways that end before the pixels. -/
theorem law5a (hA : Fun Tryz.prog 12 [] [.v (.bool true)]) (p q u v a b d e : RD) (c r : Int)
    (h : gtT [(a, b), (d, e), (p, q), (u, v)] c r = true ∨ ∃ k, k ≠ 0 ∧ Fun Tryz.prog 20 [quR p q u v, quR a b d e, i64 c, i64 r] [.l [], i64 k]) :
    Fun Tryz.prog 5 [quR p q u v, quR a b d e, i64 c, i64 r] [.v (.bool true)] := by
  refine fun_of_go (fun t => t == 13 || t == 15 || t == 18 || t == 20) mixed tOk Tryz.func5 rfl rfl ?_
  conv => whnf
  refine call_eq rfl rfl (great_w [(a, b), (d, e), (p, q), (u, v)] (by simp) c r) rfl ?_
  conv => whnf
  refine cond_intro (fun hg => ?_) (fun hg => ?_)
  · conv => whnf
    refine call_data rfl rfl hA ?_
    conv => whnf
    exact ⟨rfl, trivial⟩
  · conv => whnf
    obtain ⟨k, hk, hf⟩ := h.resolve_left (by rw [hg]; simp)
    refine call_data rfl rfl hf ?_
    conv => whnf
    refine cond_bt (by simpa using hk) ?_
    conv => whnf
    refine cond_bt (by rfl) ?_
    conv => whnf
    refine call_data rfl rfl hA ?_
    conv => whnf
    exact ⟨rfl, trivial⟩
theorem tl_equal {x0 y0 x1 y1 xa ya xb yb : Rat} {c r : Int} {n : Nat} (hn : n < 1000000) : Fun Tryz.prog 24 [.l (tlD x0 y0 x1 y1 c r xa ya xb yb n), .l (tlD x0 y0 x1 y1 c r xa ya xb yb n)] [.v (.bool true)] := by
  have hl := tlD_len (x0 := x0) (y0 := y0) (x1 := x1) (y1 := y1) (c := c) (r := r) (xa := xa) (ya := ya) (xb := xb) (yb := yb) (n := n)
  have e : tlD x0 y0 x1 y1 c r xa ya xb yb n = (((List.range n).filter (tcB x0 y0 x1 y1 c r xa ya xb yb)).map fun i : Nat => (i : Int)).map i64 := by
    unfold tlD; rw [List.map_map]; rfl
  rw [e] at hl ⊢
  rw [List.length_map] at hl
  exact equal_c _ (by omega)
theorem ratio_rng {c i : Int} (hc : 0 < c) (h0 : 0 ≤ i) (h1 : i ≤ c) : 0 ≤ Rat.divInt i c ∧ Rat.divInt i c ≤ 1 := by
  have hq : (0 : Rat) < (c : Rat) := by exact_mod_cast hc
  have hi : (0 : Rat) ≤ (i : Rat) := by exact_mod_cast h0
  have hj : (i : Rat) ≤ (c : Rat) := by exact_mod_cast h1
  rw [Rat.divInt_eq_div]
  have hv : (0 : Rat) < (c : Rat)⁻¹ := Rat.inv_pos.2 hq
  have hvc : (c : Rat) * (c : Rat)⁻¹ = 1 := Rat.mul_inv_cancel _ (by grind)
  rw [Rat.div_def]
  constructor
  · exact Rat.mul_nonneg hi (Rat.le_of_lt hv)
  · have := Rat.mul_le_mul_of_nonneg_right hj (Rat.le_of_lt hv)
    grind
theorem mix_rng {x0 x1 t : Rat} (h : x0 ≤ x1) (h0 : 0 ≤ t) (h1 : t ≤ 1) : x0 ≤ x0 + t * (x1 - x0) ∧ x0 + t * (x1 - x0) ≤ x1 := by
  have hw : 0 ≤ x1 - x0 := by grind
  have := Rat.mul_nonneg h0 hw
  have := Rat.mul_le_mul_of_nonneg_right h1 hw
  grind
theorem pxX_rng {x0 x1 : Rat} {c i : Int} (hc : 0 < c) (h0 : 0 ≤ i) (h1 : i ≤ c) (h : x0 ≤ x1) : x0 ≤ pxX x0 x1 c i ∧ pxX x0 x1 c i ≤ x1 := by
  obtain ⟨r0, r1⟩ := ratio_rng hc h0 h1
  exact mix_rng h r0 r1
theorem pxY_rng {y0 y1 : Rat} {r i : Int} (hr : 0 < r) (h0 : 0 ≤ i) (h1 : i ≤ r) (h : y0 ≤ y1) : y0 ≤ pxY y0 y1 r i ∧ pxY y0 y1 r i ≤ y1 := by
  obtain ⟨r0, r1⟩ := ratio_rng hr h0 h1
  have := mix_rng h (t := 1 - Rat.divInt i r) (by grind) (by grind)
  unfold pxY
  have e : y1 + Rat.divInt i r * (y0 - y1) = y0 + (1 - Rat.divInt i r) * (y1 - y0) := by grind
  rw [e]; exact this
theorem next_col {c r : Int} {i : Int} (hc : 0 < c) (hi : 0 ≤ i) (h : i < c * r) (hA : Int.tmod i c < c - 1) : Int.tmod (i + 1) c = Int.tmod i c + 1 ∧ Int.tdiv (i + 1) c = Int.tdiv i c ∧ i + 1 < c * r := by
  rw [Int.tmod_eq_emod_of_nonneg hi] at hA
  rw [Int.tmod_eq_emod_of_nonneg (by omega), Int.tmod_eq_emod_of_nonneg hi, Int.tdiv_eq_ediv_of_nonneg (by omega), Int.tdiv_eq_ediv_of_nonneg hi]
  have e := Int.mul_ediv_add_emod i c
  have m0 := Int.emod_nonneg i (show c ≠ 0 by omega)
  have e1 : i + 1 = (i % c + 1) + c * (i / c) := by omega
  have q1 : (i + 1) / c = i / c := by
    rw [e1, Int.add_mul_ediv_left _ _ (by omega), Int.ediv_eq_zero_of_lt (by omega) (by omega)]
    omega
  have q2 : (i + 1) % c = i % c + 1 := by
    rw [e1, Int.add_mul_emod_self_left, Int.emod_eq_of_lt (by omega) (by omega)]
  refine ⟨q2, q1, ?_⟩
  have d : i / c < r := Int.ediv_lt_of_lt_mul (by omega) (by rw [Int.mul_comm]; exact h)
  have : c * (i / c + 1) ≤ c * r := Int.mul_le_mul_of_nonneg_left (by omega) (by omega)
  rw [Int.mul_add] at this
  omega
theorem next_row {c r : Int} {i : Int} (hc : 0 < c) (hi : 0 ≤ i) : Int.tmod (i + c) c = Int.tmod i c ∧ Int.tdiv (i + c) c = Int.tdiv i c + 1 := by
  rw [Int.tmod_eq_emod_of_nonneg (by omega), Int.tmod_eq_emod_of_nonneg hi, Int.tdiv_eq_ediv_of_nonneg (by omega), Int.tdiv_eq_ediv_of_nonneg hi]
  exact ⟨Int.add_emod_right _ _, by have := Int.add_mul_ediv_right i 1 (show c ≠ 0 by omega); rwa [Int.one_mul] at this⟩
theorem nq (q : Rat) : (!eqDs [.v (.bool (rneg q)), .v (.string (rnum q)), .v (.string (rden q))] [.v (.bool (rneg q)), .v (.string (rnum q)), .v (.string (rden q))]) = false := by
  have := eqDs_rq (canon q) q
  unfold rneg rnum rden at this ⊢
  rw [this]; simp
/-- A round's state. -/
def l5St (x0 y0 x1 y1 xa ya xb yb : Rat) (c r : Int) (N i : Nat) : St :=
  ⟨fr 183 [(2, .d (i64 c)), (3, .d (i64 r)), (4, .d (.p 0 (quD xa ya xb yb).cells)), (5, .d (.p 0 (quD x0 y0 x1 y1).cells)), (9, .d (.l (tlD x0 y0 x1 y1 c r xa ya xb yb N))), (11, .own 0 0), (60, .d (i64 (c * r))), (61, .d (i64 i))],
   [.row 0 3 1 8 (tlD x0 y0 x1 y1 c r xa ya xb yb i)]⟩
theorem law5b (hA : Fun Tryz.prog 12 [] [.v (.bool true)]) {x0 y0 x1 y1 xa ya xb yb : Rat} {c r : Int} {n : Nat} (h0 : Bd n x0) (h1 : Bd n y0) (h2 : Bd n x1) (h3 : Bd n y1) (ha : Bd n xa) (hb : Bd n ya) (hc : Bd n xb) (hd : Bd n yb) (hn : n < 100000000)
    (hx : x0 < x1) (hy : y0 < y1) (hcr : 1 ≤ c ∧ c ≤ 128) (hrr : 1 ≤ r ∧ r ≤ 128) (hne : ¬ (xa = xb ∧ ya = yb)) :
    Fun Tryz.prog 5 [quD xa ya xb yb, quD x0 y0 x1 y1, i64 c, i64 r] [.v (.bool true)] := by
  have q0 : Q x0 := .mk h0 (by omega)
  have q1 : Q y0 := .mk h1 (by omega)
  have q2 : Q x1 := .mk h2 (by omega)
  have q3 : Q y1 := .mk h3 (by omega)
  have qa : Q xa := .mk ha (by omega)
  have qb : Q ya := .mk hb (by omega)
  have qc : Q xb := .mk hc (by omega)
  have qd : Q yb := .mk hd (by omega)
  have k1 : c * r ≤ 128 * 128 := Int.mul_le_mul hcr.2 hrr.2 (by omega) (by omega)
  have k2 : 0 < c * r := Int.mul_pos (by omega) (by omega)
  have kN : ((c.toNat * r.toNat : Nat) : Int) = c * r := by rw [Int.natCast_mul, Int.toNat_of_nonneg (by omega), Int.toNat_of_nonneg (by omega)]
  have hgr := great_w [(canon x0, canon y0), (canon x1, canon y1), (canon xa, canon ya), (canon xb, canon yb)] (by simp) c r
  rw [show (Fun Tryz.prog 11 [.a [nilD, nilD], i64 c, i64 r, .l (List.map (fun p => ptR p.1 p.2) [(canon x0, canon y0), (canon x1, canon y1), (canon xa, canon ya), (canon xb, canon yb)])]) = Fun Tryz.prog 11 [.a [nilD, nilD], i64 c, i64 r, .l [ptD x0 y0, ptD x1 y1, ptD xa ya, ptD xb yb]] by unfold ptD rneg rnum rden; rfl] at hgr
  generalize c.toNat * r.toNat = N at kN
  refine fun_of_go (fun t => t == 13 || t == 15 || t == 18 || t == 20) mixed tOk Tryz.func5 rfl rfl ?_
  conv => whnf
  refine call_eq rfl rfl hgr rfl ?_
  conv => whnf
  refine cond_intro (fun hg => ?_) (fun hg => ?_)
  · conv => whnf
    refine call_data rfl rfl hA ?_
    conv => whnf
    exact ⟨rfl, trivial⟩
  conv => whnf
  have hto := touched_c h0 h1 h2 h3 ha hb hc hd hn hx hy hcr hrr hne
  rw [show c.toNat * r.toNat = N by
    have : ((c.toNat * r.toNat : Nat) : Int) = c * r := by rw [Int.natCast_mul, Int.toNat_of_nonneg (by omega), Int.toNat_of_nonneg (by omega)]
    omega] at hto
  refine call_data rfl rfl hto ?_
  conv => whnf
  refine cond_bf (by decide) ?_
  conv => whnf
  refine cond_df (by omega) ?_
  conv => whnf
  refine cond_df (by omega) ?_
  conv => whnf
  refine sd_d (by omega) ?_
  conv => whnf
  refine loop_intro (fun t => t == 13 || t == 15 || t == 18 || t == 20) (fun i : Nat => l5St x0 y0 x1 y1 xa ya xb yb c r N i) (fun i => i ≤ N) (fun i => N - i) 0 mixed tOk (by omega) ?_ ?_
  · refine weak_r ?_ ?_ <;> repeat' (first | exact trivial | exact rfl | refine And.intro ?_ ?_)
  · intro i hi
    conv => whnf
    refine cond_d (fun hlt => ?_) (fun hge => ?_)
    rotate_left
    · have : i = N := by omega
      subst this
      conv => whnf
      refine call_frz 0 (call_eq rfl rfl (tl_equal (by omega)) rfl ?_)
      conv => whnf
      refine call_data rfl rfl hA ?_
      conv => whnf
      exact ⟨rfl, trivial⟩
    · conv => whnf
      have d1 := Int.tmod_nonneg (b := c) (a := (i : Int)) (by omega)
      have d2 := Int.tmod_lt_of_pos (i : Int) (b := c) (by omega)
      have d3 : 0 ≤ Int.tdiv (i : Int) c := Int.tdiv_nonneg (by omega) (by omega)
      have d4 : Int.tdiv (i : Int) c < r := by
        rw [Int.tdiv_eq_ediv_of_nonneg (by omega)]
        exact Int.ediv_lt_of_lt_mul (by omega) (by rw [Int.mul_comm]; exact hlt)
      have hcl := clip_c (n := 3 * n + 4) ⟨ha.mono (by omega), hb.mono (by omega)⟩ ⟨hc.mono (by omega), hd.mono (by omega)⟩ ⟨pxX_bd (c := c) (i := Int.tmod i c) h0 h2 (by omega) (by omega), pxY_bd (c := r) (i := Int.tdiv i c + 1) h1 h3 (by omega) (by omega)⟩
        ⟨pxX_bd (c := c) (i := Int.tmod i c + 1) h0 h2 (by omega) (by omega), pxY_bd (c := r) (i := Int.tdiv i c) h1 h3 (by omega) (by omega)⟩ (by omega) hne (pxX_le (by omega) (Rat.le_of_lt hx)) (pxY_le (by omega) (Rat.le_of_lt hy))
      have hw1 := within_c (n := 3 * n + 4) (h0.mono (by omega)) (h1.mono (by omega)) (h2.mono (by omega)) (h3.mono (by omega)) (pxX_bd (c := c) (i := Int.tmod i c) h0 h2 (by omega) (by omega)) (pxY_bd (c := r) (i := Int.tdiv i c + 1) h1 h3 (by omega) (by omega)) (by omega)
      have hw2 := within_c (n := 3 * n + 4) (h0.mono (by omega)) (h1.mono (by omega)) (h2.mono (by omega)) (h3.mono (by omega)) (pxX_bd (c := c) (i := Int.tmod i c + 1) h0 h2 (by omega) (by omega)) (pxY_bd (c := r) (i := Int.tdiv i c) h1 h3 (by omega) (by omega)) (by omega)
      have xr := fun (j : Int) (e1 : 0 ≤ j) (e2 : j ≤ c) => pxX_rng (c := c) (i := j) (by omega) e1 e2 (Rat.le_of_lt hx)
      have yr := fun (j : Int) (e1 : 0 ≤ j) (e2 : j ≤ r) => pxY_rng (r := r) (i := j) (by omega) e1 e2 (Rat.le_of_lt hy)
      rw [inB_true (xr _ d1 (by omega)).1 (yr _ (by omega) (by omega)).1 (xr _ d1 (by omega)).2 (yr _ (by omega) (by omega)).2] at hw1
      rw [inB_true (xr _ (by omega) (by omega)).1 (yr _ d3 (by omega)).1 (xr _ (by omega) (by omega)).2 (yr _ d3 (by omega)).2] at hw2
      refine call_data rfl rfl (rpixel_c h0 h1 h2 h3 hn hx hy hcr hrr (by omega) hlt) ?_
      conv => whnf
      refine call_data rfl rfl hcl ?_
      conv => whnf
      refine cond_bf (by decide) ?_
      conv => whnf
      refine cond_bf (by decide) ?_
      conv => whnf
      refine call_data rfl rfl hw1 ?_
      conv => whnf
      refine call_data rfl rfl hw2 ?_
      conv => whnf
      refine sd_d (by omega) ?_
      conv => whnf
      refine sd_d (by omega) ?_
      conv => whnf
      refine cond_d (fun hA1 => ?_) (fun hA1 => ?_)
      · have hp1 := rpixel_c h0 h1 h2 h3 hn hx hy hcr hrr (k := (i : Int) + 1) (by omega) (next_col (by omega) (by omega) hlt hA1).2.2
        rw [(next_col (r := r) (by omega) (by omega) hlt hA1).1, (next_col (r := r) (by omega) (by omega) hlt hA1).2.1] at hp1
        conv => whnf
        refine sd_d (by omega) ?_
        conv => whnf
        refine call_data rfl rfl hp1 ?_
        conv => whnf
        refine cond_bf (by decide) ?_
        conv => whnf
        refine cond_bf (nq _) ?_
        conv => whnf
        refine cond_bf (nq _) ?_
        conv => whnf
        refine sd_d (by omega) ?_
        conv => whnf
        refine sd_d (by omega) ?_
        conv => whnf
        refine cond_d (fun hB1 => ?_) (fun hB1 => ?_)
        · have hp2 := rpixel_c h0 h1 h2 h3 hn hx hy hcr hrr (k := (i : Int) + c) (by omega) hB1
          rw [(next_row (c := c) (r := r) (by omega) (by omega)).1, (next_row (c := c) (r := r) (by omega) (by omega)).2] at hp2
          conv => whnf
          refine sd_d (by omega) ?_
          conv => whnf
          refine call_data rfl rfl hp2 ?_
          conv => whnf
          refine cond_bf (by decide) ?_
          conv => whnf
          refine cond_bf (nq _) ?_
          conv => whnf
          refine cond_bf (nq _) ?_
          conv => whnf
          refine cond_intro (fun ht => ?_) (fun ht => ?_)
          · conv => whnf
            have hl := tlD_len (x0 := x0) (y0 := y0) (x1 := x1) (y1 := y1) (c := c) (r := r) (xa := xa) (ya := ya) (xb := xb) (yb := yb) (n := i)
            refine sd_app tlD_uni (uni1 _) (by simp only [maxLen, List.length_cons, List.length_nil]; omega) ?_
            conv => whnf
            refine sd_d (by omega) ?_
            conv => whnf
            refine ⟨i + 1, by omega, by omega, ?_⟩
            unfold l5St
            rw [tlD_t ht, Int.natCast_succ]
            refine weak_dead 1 rfl (weak_dead 2 rfl (weak_dead 3 rfl (weak_dead 4 rfl ?_)))
            refine weak_r ?_ ?_ <;> repeat' (first | exact trivial | exact rfl | refine And.intro ?_ ?_)
          · conv => whnf
            refine sd_d (by omega) ?_
            conv => whnf
            refine ⟨i + 1, by omega, by omega, ?_⟩
            unfold l5St
            rw [tlD_f ht, Int.natCast_succ]
            refine weak_dead 1 rfl (weak_dead 2 rfl (weak_dead 3 rfl (weak_dead 4 rfl ?_)))
            refine weak_r ?_ ?_ <;> repeat' (first | exact trivial | exact rfl | refine And.intro ?_ ?_)
        · conv => whnf
          refine cond_intro (fun ht => ?_) (fun ht => ?_)
          · conv => whnf
            have hl := tlD_len (x0 := x0) (y0 := y0) (x1 := x1) (y1 := y1) (c := c) (r := r) (xa := xa) (ya := ya) (xb := xb) (yb := yb) (n := i)
            refine sd_app tlD_uni (uni1 _) (by simp only [maxLen, List.length_cons, List.length_nil]; omega) ?_
            conv => whnf
            refine sd_d (by omega) ?_
            conv => whnf
            refine ⟨i + 1, by omega, by omega, ?_⟩
            unfold l5St
            rw [tlD_t ht, Int.natCast_succ]
            refine weak_dead 1 rfl (weak_dead 2 rfl (weak_dead 3 rfl (weak_dead 4 rfl ?_)))
            refine weak_r ?_ ?_ <;> repeat' (first | exact trivial | exact rfl | refine And.intro ?_ ?_)
          · conv => whnf
            refine sd_d (by omega) ?_
            conv => whnf
            refine ⟨i + 1, by omega, by omega, ?_⟩
            unfold l5St
            rw [tlD_f ht, Int.natCast_succ]
            refine weak_dead 1 rfl (weak_dead 2 rfl (weak_dead 3 rfl (weak_dead 4 rfl ?_)))
            refine weak_r ?_ ?_ <;> repeat' (first | exact trivial | exact rfl | refine And.intro ?_ ?_)
      · conv => whnf
        refine sd_d (by omega) ?_
        conv => whnf
        refine sd_d (by omega) ?_
        conv => whnf
        refine cond_d (fun hB1 => ?_) (fun hB1 => ?_)
        · have hp2 := rpixel_c h0 h1 h2 h3 hn hx hy hcr hrr (k := (i : Int) + c) (by omega) hB1
          rw [(next_row (c := c) (r := r) (by omega) (by omega)).1, (next_row (c := c) (r := r) (by omega) (by omega)).2] at hp2
          conv => whnf
          refine sd_d (by omega) ?_
          conv => whnf
          refine call_data rfl rfl hp2 ?_
          conv => whnf
          refine cond_bf (by decide) ?_
          conv => whnf
          refine cond_bf (nq _) ?_
          conv => whnf
          refine cond_bf (nq _) ?_
          conv => whnf
          refine cond_intro (fun ht => ?_) (fun ht => ?_)
          · conv => whnf
            have hl := tlD_len (x0 := x0) (y0 := y0) (x1 := x1) (y1 := y1) (c := c) (r := r) (xa := xa) (ya := ya) (xb := xb) (yb := yb) (n := i)
            refine sd_app tlD_uni (uni1 _) (by simp only [maxLen, List.length_cons, List.length_nil]; omega) ?_
            conv => whnf
            refine sd_d (by omega) ?_
            conv => whnf
            refine ⟨i + 1, by omega, by omega, ?_⟩
            unfold l5St
            rw [tlD_t ht, Int.natCast_succ]
            refine weak_dead 1 rfl (weak_dead 2 rfl (weak_dead 3 rfl (weak_dead 4 rfl ?_)))
            refine weak_r ?_ ?_ <;> repeat' (first | exact trivial | exact rfl | refine And.intro ?_ ?_)
          · conv => whnf
            refine sd_d (by omega) ?_
            conv => whnf
            refine ⟨i + 1, by omega, by omega, ?_⟩
            unfold l5St
            rw [tlD_f ht, Int.natCast_succ]
            refine weak_dead 1 rfl (weak_dead 2 rfl (weak_dead 3 rfl (weak_dead 4 rfl ?_)))
            refine weak_r ?_ ?_ <;> repeat' (first | exact trivial | exact rfl | refine And.intro ?_ ?_)
        · conv => whnf
          refine cond_intro (fun ht => ?_) (fun ht => ?_)
          · conv => whnf
            have hl := tlD_len (x0 := x0) (y0 := y0) (x1 := x1) (y1 := y1) (c := c) (r := r) (xa := xa) (ya := ya) (xb := xb) (yb := yb) (n := i)
            refine sd_app tlD_uni (uni1 _) (by simp only [maxLen, List.length_cons, List.length_nil]; omega) ?_
            conv => whnf
            refine sd_d (by omega) ?_
            conv => whnf
            refine ⟨i + 1, by omega, by omega, ?_⟩
            unfold l5St
            rw [tlD_t ht, Int.natCast_succ]
            refine weak_dead 1 rfl (weak_dead 2 rfl (weak_dead 3 rfl (weak_dead 4 rfl ?_)))
            refine weak_r ?_ ?_ <;> repeat' (first | exact trivial | exact rfl | refine And.intro ?_ ?_)
          · conv => whnf
            refine sd_d (by omega) ?_
            conv => whnf
            refine ⟨i + 1, by omega, by omega, ?_⟩
            unfold l5St
            rw [tlD_f ht, Int.natCast_succ]
            refine weak_dead 1 rfl (weak_dead 2 rfl (weak_dead 3 rfl (weak_dead 4 rfl ?_)))
            refine weak_r ?_ ?_ <;> repeat' (first | exact trivial | exact rfl | refine And.intro ?_ ?_)
end Go.Nv
end
section
namespace Go.Nv
open Go.Proofs Nw
set_option maxRecDepth 100000
set_option linter.unusedVariables false
set_option linter.unusedSimpArgs false
theorem bd_dv {s : ByteArray} (h : s.size ≤ 12) : bv s ≤ 256 ^ 12 := Nat.le_trans (Nat.le_of_lt (bvl_lt _)) (Nat.pow_le_pow_right (by omega) h)
theorem gtR_bd {r : RD} (h : gtR r = false) : Bd 12 r.val := by
  unfold gtR at h
  simp at h
  refine mkRat_bd (dv_ne _) ?_ ?_
  · show (sg r.neg (bv r.num)).natAbs ≤ _
    rw [sg_abs]; exact bd_dv h.1
  · have := bd_dv h.2
    unfold dv
    split <;> omega
theorem gtR_sz {r : RD} (h : gtR r = false) : Sz r := by
  unfold gtR at h
  simp at h
  exact ⟨by omega, by omega⟩
theorem law5 (hA : Fun Tryz.prog 12 [] [.v (.bool true)]) (p q u v a b d e : RD) (c r : Int) :
    Fun Tryz.prog 5 [quR p q u v, quR a b d e, i64 c, i64 r] [.v (.bool true)] := by
  cases hg : gtT [(a, b), (d, e), (p, q), (u, v)] c r with
  | true => exact law5a hA p q u v a b d e c r (.inl hg)
  | false =>
    unfold gtT at hg
    simp only [List.any_cons, List.any_nil, gtP, Bool.or_false, Bool.or_eq_false_iff, decide_eq_false_iff_not] at hg
    obtain ⟨⟨⟨ga, gb⟩, ⟨gd, ge⟩, ⟨gp, gq⟩, gu, gv⟩, gn⟩ := hg
    have hp := gtR_sz gp
    have hq := gtR_sz gq
    have hu := gtR_sz gu
    have hv := gtR_sz gv
    have ha := gtR_sz ga
    have hb := gtR_sz gb
    have hd := gtR_sz gd
    have he := gtR_sz ge
    cases hw : vbB a b d e with
    | false => exact law5a hA p q u v a b d e c r (.inr ⟨1, by omega, tch_x a b d e p q u v ha hb hd he hp hq hu hv hw c r⟩)
    | true =>
      unfold vbB at hw
      obtain ⟨w1, w2, w3, w4⟩ := of_decide_eq_true hw
      rw [okP_zero] at w1 w2
      have ba := gtR_bd ga
      have bb := gtR_bd gb
      have bd := gtR_bd gd
      have be := gtR_bd ge
      have eq1 : quR a b d e = quD a.val b.val d.val e.val := by rw [quD_eq, w1.1, w1.2, w2.1, w2.2]
      have law := law5a hA p q u v a b d e c r
      by_cases hs : okP p q = 0 ∧ okP u v = 0
      · by_cases hz : c < 1 ∨ c > 128 ∨ r < 1 ∨ r > 128
        · refine law (.inr ⟨2, by omega, ?_⟩)
          rw [eq1]
          exact tch_s (.mk ba (by omega)) (.mk bb (by omega)) (.mk bd (by omega)) (.mk be (by omega)) w3 w4 p q u v hp hq hu hv hs.1 hs.2 c r (by unfold gcE; rw [if_pos hz])
        · obtain ⟨s1, s2⟩ := hs
          rw [okP_zero] at s1 s2
          have eq2 : quR p q u v = quD p.val q.val u.val v.val := by rw [quD_eq, s1.1, s1.2, s2.1, s2.2]
          have bp := gtR_bd gp
          have bq := gtR_bd gq
          have bu := gtR_bd gu
          have bv := gtR_bd gv
          by_cases hne : p.val = u.val ∧ q.val = v.val
          · refine law (.inr ⟨12, by omega, ?_⟩)
            rw [eq1, eq2, ← hne.1, ← hne.2]
            exact tch_e (.mk ba (by omega)) (.mk bb (by omega)) (.mk bd (by omega)) (.mk be (by omega)) w3 w4 (.mk bp (by omega)) (.mk bq (by omega)) c r (by unfold gcE; rw [if_neg hz])
          · rw [eq1, eq2]
            exact law5b hA ba bb bd be bp bq bu bv (by omega) w3 w4 (by omega) (by omega) hne
      · refine law (.inr ⟨1, by omega, ?_⟩)
        rw [eq1]
        exact tch_p (.mk ba (by omega)) (.mk bb (by omega)) (.mk bd (by omega)) (.mk be (by omega)) w3 w4 p q u v hp hq hu hv (by
          rcases Classical.em (okP p q = 0) with h | h
          · exact .inr fun h' => hs ⟨h, h'⟩
          · exact .inl h) c r
end Go.Nv
end
