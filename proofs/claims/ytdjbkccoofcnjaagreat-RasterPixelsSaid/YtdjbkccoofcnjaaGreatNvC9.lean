import Derived.Test.YtdjbkccoofcnjaaGreatNvC8
set_option linter.all false
set_option linter.unusedVariables false
set_option linter.unusedSimpArgs false
section
namespace Go.Nv
open Go.Proofs Nw
set_option maxRecDepth 100000
set_option linter.unusedVariables false
set_option linter.unusedSimpArgs false
theorem rpixel_c {x0 y0 x1 y1 : Rat} {c r k : Int} {n : Nat} (h0 : Bd n x0) (h1 : Bd n y0) (h2 : Bd n x1) (h3 : Bd n y1) (hn : n < 100000000)
    (hx : x0 < x1) (hy : y0 < y1) (hcr : 1 ≤ c ∧ c ≤ 128) (hrr : 1 ≤ r ∧ r ≤ 128) (hk : 0 ≤ k) (hlt : k < c * r) :
    Fun Tryz.prog 22 [quD x0 y0 x1 y1, i64 c, i64 r, i64 k] [quD (pxX x0 x1 c (Int.tmod k c)) (pxY y0 y1 r (Int.tdiv k c + 1)) (pxX x0 x1 c (Int.tmod k c + 1)) (pxY y0 y1 r (Int.tdiv k c)), i64 0] := by
  have q0 : Q x0 := .mk h0 (by omega)
  have q1 : Q y0 := .mk h1 (by omega)
  have q2 : Q x1 := .mk h2 (by omega)
  have q3 : Q y1 := .mk h3 (by omega)
  have hg := gchk1 q0 q1 q2 q3 hx hy (c := c) (r := r)
  rw [show gcE c r = 0 by unfold gcE; rw [if_neg (by omega)]] at hg
  have k1 : c * r ≤ 128 * 128 := Int.mul_le_mul hcr.2 hrr.2 (by omega) (by omega)
  have d1 := Int.tmod_nonneg (b := c) (a := k) (by omega)
  have d2 := Int.tmod_lt_of_pos k (b := c) (by omega)
  have d3 : 0 ≤ Int.tdiv k c := Int.tdiv_nonneg (by omega) (by omega)
  have d4 : Int.tdiv k c < r := by
    rw [Int.tdiv_eq_ediv_of_nonneg (by omega)]
    exact Int.ediv_lt_of_lt_mul (by omega) (by rw [Int.mul_comm]; exact hlt)
  refine fun_of_go (fun t => t == 4 || t == 8 || t == 10) mixed tOk Tryz.func22 rfl rfl ?_
  conv => whnf
  refine call_data rfl rfl hg ?_
  conv => whnf
  refine cond_bf (by decide) ?_
  conv => whnf
  refine cond_df (by omega) ?_
  conv => whnf
  refine sd_d (by omega) ?_
  conv => whnf
  refine cond_df (by omega) ?_
  conv => whnf
  refine sd_d (by omega) ?_
  conv => whnf
  refine sd_dd (by omega) (by omega) ?_
  conv => whnf
  refine callv_data (pixel_c h0 h1 h2 h3 (by omega) (by omega) (by omega) (by omega) (by omega)) ?_
  conv => whnf
  refine safe_intro (by kernel_rfl) ?_
  conv => whnf
  refine ⟨?_, ?_, trivial⟩
  · conv => whnf
    exact ⟨rfl, rfl, rfl, rfl, rfl, rfl, rfl, rfl, rfl, rfl, rfl, rfl, trivial⟩
  · conv => whnf
theorem i64_uni (xs : List Int) : Uni 1 (xs.map i64) := by
  intro x hx
  obtain ⟨i, _, rfl⟩ := List.mem_map.1 hx
  rfl
theorem equal_c (xs : List Int) (hxs : xs.length < 1000000) : Fun Tryz.prog 24 [.l (xs.map i64), .l (xs.map i64)] [.v (.bool true)] := by
  have hl : (xs.map i64).length = xs.length := by simp
  refine fun_of_go (fun t => false) mixed tOk Tryz.func24 rfl rfl ?_
  conv => whnf
  refine cond_ne (fun h => absurd rfl h) (fun _ => ?_)
  conv => whnf
  refine loop_intro (fun t => false) (fun i : Nat => ⟨fr 26 [(0, .d (.l (xs.map i64))), (1, .d (.l (xs.map i64))), (12, .d (i64 (xs.map i64).length)), (13, .d (i64 i))], []⟩) (fun i => i ≤ xs.length) (fun i => xs.length - i) 0 mixed tOk (by omega) ?_ ?_
  · refine weak_r ?_ ?_ <;> repeat' (first | exact trivial | exact rfl | refine And.intro ?_ ?_)
  · intro i hi
    conv => whnf
    refine cond_d (fun hlt => ?_) (fun hge => ?_)
    · have hlt' : i < xs.length := by omega
      have hg : (xs.map i64)[(i : Int).toNat]? = some (i64 xs[i]) := by simp [hlt']
      conv => whnf
      refine idx_intro (i64 xs[i]) hg (by omega) (i64_uni xs) ?_
      conv => whnf
      refine idx_intro (i64 xs[i]) hg (by omega) (i64_uni xs) ?_
      conv => whnf
      refine safe_intro (by kernel_rfl) ?_
      conv => whnf
      refine cond_ne (fun h => absurd rfl h) (fun _ => ?_)
      conv => whnf
      refine sd_d (by omega) ?_
      conv => whnf
      refine ⟨i + 1, by omega, by omega, ?_⟩
      rw [Int.natCast_succ]
      refine weak_r ?_ ?_ <;> repeat' (first | exact trivial | exact rfl | refine And.intro ?_ ?_)
    · conv => whnf
      exact ⟨rfl, trivial⟩
end Go.Nv
end
section
namespace Go.Nv
open Go.Proofs Nw
set_option maxRecDepth 100000
set_option linter.unusedVariables false
set_option linter.unusedSimpArgs false
abbrev nilD : D := .v (.slice none 0 0)
theorem fun_arg {P : Program} {g : FuncId} {xs ys res : List D} (k : Fun P g ys res) (h : ∀ (W : World) (ok : Nat → Prop) (us : List Value), DenL W ok xs us → DenL W ok ys us) : Fun P g xs res := ⟨k.1, fun W ok us hd => k.2 W ok us (h W ok us hd)⟩
theorem den_nil {W : World} {ok : Nat → Prop} {v : Value} (h : Den W ok nilD v) : Den W ok (.l []) v := by
  cases h
  exact .l0 (by simp) fun _ => rfl
theorem den_nils {W : World} {ok : Nat → Prop} {v : Value} (h : Den W ok (.a [nilD, nilD]) v) : Den W ok (.a [.l [], .l []]) v := by
  cases h with
  | a h1 h2 h3 =>
    refine .a h1 (fun i c u hc hu => ?_) h3
    match i with
    | 0 => simp at hc; subst hc; exact den_nil (h2 0 _ _ rfl hu)
    | 1 => simp at hc; subst hc; exact den_nil (h2 1 _ _ rfl hu)
    | i + 2 => simp at hc
theorem great0 : Fun Tryz.prog 39 [.l []] [.v (.bool false)] := by
  refine fun_of_go (fun t => false) mixed tOk Tryz.func39 rfl rfl ?_
  conv => whnf
  refine unroll 1 (fun t => false) mixed tOk ?_
  conv => whnf
  refine cond_df (by show ¬ (0 : Int) < ((0 : Nat) : Int); omega) ?_
  conv => whnf
  exact ⟨rfl, trivial⟩
def gtR (r : RD) : Bool := decide (12 < r.num.size) || decide (12 < r.den.size)
def gtP (p : RD × RD) : Bool := gtR p.1 || gtR p.2
theorem great7 (ps : List (RD × RD)) (hl : ps.length < 1000) : Fun Tryz.prog 39 [.l (ps.map fun p => ptR p.1 p.2)] [.v (.bool (ps.any gtP))] := by
  have hll : (ps.map fun p => ptR p.1 p.2).length = ps.length := by simp
  have hu : Uni 6 (ps.map fun p => ptR p.1 p.2) := by
    intro x hx
    obtain ⟨p, _, rfl⟩ := List.mem_map.1 hx
    rfl
  refine fun_of_go (fun t => false) mixed tOk Tryz.func39 rfl rfl ?_
  conv => whnf
  refine loop_intro (fun t => false) (fun i : Nat => ⟨fr 48 [(0, .d (.l (ps.map fun p => ptR p.1 p.2))), (3, .d (i64 i))], []⟩) (fun i => i ≤ ps.length ∧ (ps.take i).any gtP = false) (fun i => ps.length - i) 0 mixed tOk ⟨by omega, rfl⟩ ?_ ?_
  · refine weak_r ?_ ?_ <;> repeat' (first | exact trivial | exact rfl | refine And.intro ?_ ?_)
  · rintro i ⟨hi, hno⟩
    conv => whnf
    refine cond_d (fun hlt => ?_) (fun hge => ?_)
    · have hlt' : i < ps.length := by omega
      have hg : (ps.map fun p => ptR p.1 p.2)[(i : Int).toNat]? = some (ptR ps[i].1 ps[i].2) := by simp [hlt']
      have yes : gtP ps[i] = true → ps.any gtP = true := fun h => List.any_eq_true.2 ⟨ps[i], List.getElem_mem _, h⟩
      conv => whnf
      refine idx_intro (ptR ps[i].1 ps[i].2) hg (by omega) hu ?_
      conv => whnf
      refine cond_d (fun k1 => ?_) (fun k1 => ?_)
      · rw [yes (by unfold gtP gtR; simp; omega)]
        conv => whnf
        exact ⟨rfl, trivial⟩
      conv => whnf
      refine idx_intro (ptR ps[i].1 ps[i].2) hg (by omega) hu ?_
      conv => whnf
      refine cond_d (fun k2 => ?_) (fun k2 => ?_)
      · rw [yes (by unfold gtP gtR; simp; omega)]
        conv => whnf
        exact ⟨rfl, trivial⟩
      conv => whnf
      refine idx_intro (ptR ps[i].1 ps[i].2) hg (by omega) hu ?_
      conv => whnf
      refine cond_d (fun k3 => ?_) (fun k3 => ?_)
      · rw [yes (by unfold gtP gtR; simp; omega)]
        conv => whnf
        exact ⟨rfl, trivial⟩
      conv => whnf
      refine idx_intro (ptR ps[i].1 ps[i].2) hg (by omega) hu ?_
      conv => whnf
      refine cond_d (fun k4 => ?_) (fun k4 => ?_)
      · rw [yes (by unfold gtP gtR; simp; omega)]
        conv => whnf
        exact ⟨rfl, trivial⟩
      conv => whnf
      refine sd_d (by omega) ?_
      conv => whnf
      refine ⟨i + 1, ⟨by omega, ?_⟩, by omega, ?_⟩
      · rw [List.take_succ_eq_append_getElem hlt', List.any_append, hno]
        unfold gtP gtR
        simp
        omega
      rw [Int.natCast_succ]
      refine weak_r ?_ ?_ <;> repeat' (first | exact trivial | exact rfl | refine And.intro ?_ ?_)
    · have : i = ps.length := by omega
      subst this
      rw [List.take_length] at hno
      rw [hno]
      conv => whnf
      exact ⟨rfl, trivial⟩
abbrev wk0 : D := .a [.l [], .l []]
theorem great11 : Fun Tryz.prog 102 [wk0] [.v (.bool false)] := by
  refine fun_of_go (fun t => false) mixed tOk Tryz.func102 rfl rfl ?_
  conv => whnf
  refine cond_df (by show ¬ ((0 : Nat) : Int) > 10; omega) ?_
  conv => whnf
  refine cond_df (by show ¬ ((0 : Nat) : Int) > 67; omega) ?_
  conv => whnf
  refine call_data rfl rfl great0 ?_
  conv => whnf
  refine unroll 1 (fun t => false) mixed tOk ?_
  conv => whnf
  refine cond_df (by show ¬ (0 : Int) < ((0 : Nat) : Int); omega) ?_
  conv => whnf
  refine cond_df (by show ¬ ((0 : Nat) : Int) > 3; omega) ?_
  conv => whnf
  refine ⟨?_, trivial⟩
  conv => whnf
  rw [bz_eq]
  rfl
theorem great22 : Fun Tryz.prog 38 [wk0] [.v (.bool false)] := by
  refine fun_of_go (fun t => false) mixed tOk Tryz.func38 rfl rfl ?_
  conv => whnf
  refine call_data rfl rfl great11 ?_
  conv => whnf
  refine unroll 1 (fun t => false) mixed tOk ?_
  conv => whnf
  refine cond_df (by show ¬ (0 : Int) < ((0 : Nat) : Int); omega) ?_
  conv => whnf
  refine cond_df (by show ¬ ((0 : Nat) : Int) > 12; omega) ?_
  conv => whnf
  exact ⟨rfl, trivial⟩
def gtT (ps : List (RD × RD)) (c r : Int) : Bool := ps.any gtP || decide (1 ≤ c ∧ c ≤ 128 ∧ 1 ≤ r ∧ r ≤ 128 ∧ 36 < c * r)
theorem great_c (ps : List (RD × RD)) (hl : ps.length < 1000) (c r : Int) : Fun Tryz.prog 11 [wk0, i64 c, i64 r, .l (ps.map fun p => ptR p.1 p.2)] [.v (.bool (gtT ps c r))] := by
  refine fun_of_go (fun t => false) mixed tOk Tryz.func11 rfl rfl ?_
  conv => whnf
  refine call_data rfl rfl great22 ?_
  conv => whnf
  refine call_data rfl rfl (great7 ps hl) ?_
  conv => whnf
  have no : ps.any gtP = false → ¬ (1 ≤ c ∧ c ≤ 128 ∧ 1 ≤ r ∧ r ≤ 128 ∧ 36 < c * r) → gtT ps c r = false := fun h1 h2 => by unfold gtT; rw [h1, decide_eq_false h2]; rfl
  refine cond_intro (fun h => ?_) (fun h => ?_)
  · rw [show gtT ps c r = true by unfold gtT; rw [h]; rfl]
    conv => whnf
    exact ⟨rfl, trivial⟩
  conv => whnf
  refine cond_d (fun k1 => ?_) (fun k1 => ?_)
  rotate_left
  · rw [no h (by omega)]
    conv => whnf
    exact ⟨rfl, trivial⟩
  conv => whnf
  refine cond_d (fun k2 => ?_) (fun k2 => ?_)
  rotate_left
  · rw [no h (by omega)]
    conv => whnf
    exact ⟨rfl, trivial⟩
  conv => whnf
  refine cond_d (fun k3 => ?_) (fun k3 => ?_)
  rotate_left
  · rw [no h (by omega)]
    conv => whnf
    exact ⟨rfl, trivial⟩
  conv => whnf
  refine cond_d (fun k4 => ?_) (fun k4 => ?_)
  rotate_left
  · rw [no h (by omega)]
    conv => whnf
    exact ⟨rfl, trivial⟩
  conv => whnf
  have m1 : c * r ≤ 128 * 128 := Int.mul_le_mul k2 k4 (by omega) (by omega)
  have m2 : 0 < c * r := Int.mul_pos (by omega) (by omega)
  refine sd_d (by omega) ?_
  conv => whnf
  refine ⟨?_, trivial⟩
  conv => whnf
  rw [bz_eq]
  unfold gtT
  rw [h]
  simp only [Bool.false_or, decide_eq_decide]
  omega
end Go.Nv
end
section
namespace Go.Nv
open Go.Proofs Nw
set_option maxRecDepth 100000
set_option linter.unusedVariables false
set_option linter.unusedSimpArgs false
theorem den_args {W : World} {ok : Nat → Prop} {xs : List D} {us : List Value} (h : DenL W ok (.a [nilD, nilD] :: xs) us) : DenL W ok (wk0 :: xs) us := by
  cases us with
  | nil => have := h.1; simp at this
  | cons u us =>
    refine ⟨by simpa using h.1, fun i c u' hc hu => ?_⟩
    cases i with
    | zero => simp at hc hu; subst hc; subst hu; exact den_nils (h.2 0 _ _ rfl rfl)
    | succ i => exact h.2 (i + 1) c u' (by simpa using hc) hu
theorem great_w (ps : List (RD × RD)) (hl : ps.length < 1000) (c r : Int) : Fun Tryz.prog 11 [.a [nilD, nilD], i64 c, i64 r, .l (ps.map fun p => ptR p.1 p.2)] [.v (.bool (gtT ps c r))] :=
  fun_arg (great_c ps hl c r) fun _ _ _ h => den_args h
theorem tl_equal {x0 y0 x1 y1 xa ya xb yb : Rat} {c r : Int} {n : Nat} (hn : n < 1000000) : Fun Tryz.prog 24 [.l (tlD x0 y0 x1 y1 c r xa ya xb yb n), .l (tlD x0 y0 x1 y1 c r xa ya xb yb n)] [.v (.bool true)] := by
  have hl := tlD_len (x0 := x0) (y0 := y0) (x1 := x1) (y1 := y1) (c := c) (r := r) (xa := xa) (ya := ya) (xb := xb) (yb := yb) (n := n)
  have e : tlD x0 y0 x1 y1 c r xa ya xb yb n = (((List.range n).filter (tcB x0 y0 x1 y1 c r xa ya xb yb)).map fun i : Nat => (i : Int)).map i64 := by
    unfold tlD; rw [List.map_map]; rfl
  rw [e] at hl ⊢
  rw [List.length_map] at hl
  exact equal_c _ (by omega)
def l5St (x0 y0 x1 y1 xa ya xb yb : Rat) (c r : Int) (N i : Nat) : St :=
  ⟨fr 183 [(2, .d (i64 c)), (3, .d (i64 r)), (4, .d (.p 0 (quD xa ya xb yb).cells)), (5, .d (.p 0 (quD x0 y0 x1 y1).cells)), (9, .d (.l (tlD x0 y0 x1 y1 c r xa ya xb yb N))), (11, .own 0 0), (60, .d (i64 (c * r))), (61, .d (i64 i))],
   [.row 0 3 1 8 (tlD x0 y0 x1 y1 c r xa ya xb yb i)]⟩
end Go.Nv
end
section
namespace Go.Nv
open Go.Proofs Nw
set_option maxRecDepth 100000
set_option linter.unusedVariables false
set_option linter.unusedSimpArgs false
theorem bd_dv {s : ByteArray} (h : s.size ≤ 12) : bv s ≤ 256 ^ 12 := Nat.le_trans (Nat.le_of_lt (bvl_lt _)) (Nat.pow_le_pow_right (by omega) h)
theorem gtR_bd {r : RD} (h : gtR r = false) : Bd 12 r.val := by
  unfold gtR at h
  simp at h
  refine mkRat_bd (dv_ne _) ?_ ?_
  · show (sg r.neg (bv r.num)).natAbs ≤ _
    rw [sg_abs]; exact bd_dv h.1
  · have := bd_dv h.2
    unfold dv
    split <;> omega
theorem gtR_sz {r : RD} (h : gtR r = false) : Sz r := by
  unfold gtR at h
  simp at h
  exact ⟨by omega, by omega⟩
end Go.Nv
end
