import Derived.Test.YtdjbkccoofcnjaaGreatNvD4
set_option linter.all false
set_option linter.unusedVariables false
set_option linter.unusedSimpArgs false
section
namespace Go.Nv
open Go.Proofs Nw
set_option maxRecDepth 100000
set_option linter.unusedVariables false
set_option linter.unusedSimpArgs false
theorem any_take {α : Type} {g : α → Bool} {l : List α} {n : Nat} (h : (l.take n).any g = false) (hn : l.length ≤ n) : ∀ x ∈ l, g x = false := by
  rw [List.take_of_length_le hn, List.any_eq_false] at h
  intro x hx
  have := h x hx
  simpa using this
structure G11 (o : List (RD × RD)) (hs : List (List (RD × RD))) : Prop where
  lo : o.length ≤ 67
  lh : hs.length ≤ 10
  ob : ∀ p ∈ o, gtP p = false
  hb : ∀ h ∈ hs, ∀ p ∈ h, gtP p = false
  hl : ∀ h ∈ hs, h.length ≤ 6
theorem g11_f {o : List (RD × RD)} {hs : List (List (RD × RD))} (h : g11 o hs = false) : G11 o hs := by
  unfold g11 at h
  rw [Bool.or_eq_false_iff, Bool.or_eq_false_iff, Bool.or_eq_false_iff, decide_eq_false_iff_not, decide_eq_false_iff_not] at h
  obtain ⟨h1, h2, h3, h4⟩ := h
  have h5 := any_take h3 (by omega)
  refine ⟨by omega, by omega, fun p hp => ?_, fun x hx p hp => ?_, fun x hx => ?_⟩
  · rw [List.any_eq_false] at h2; have := h2 p hp; simpa using this
  · have := h5 x hx
    unfold gtH at this
    rw [Bool.or_eq_false_iff, List.any_eq_false] at this
    have := this.2 p hp; simpa using this
  · have := h5 x hx
    unfold gtH at this
    rw [Bool.or_eq_false_iff, decide_eq_false_iff_not] at this
    omega
def nPt (o : List (RD × RD)) (hs : List (List (RD × RD))) : Nat := o.length + (hs.map List.length).sum
theorem nPt_take {o : List (RD × RD)} {hs : List (List (RD × RD))} {i : Nat} (h : i < hs.length) : nPt o (hs.take (i + 1)) = nPt o (hs.take i) + hs[i].length := by
  unfold nPt; rw [List.take_succ_eq_append_getElem h, List.map_append, List.sum_append]; simp; omega
theorem nPt_le {o : List (RD × RD)} {hs : List (List (RD × RD))} (hl : ∀ h ∈ hs, h.length ≤ 6) : ∀ i, i ≤ hs.length → nPt o (hs.take i) ≤ o.length + 6 * i
  | 0, _ => by simp [nPt]
  | i + 1, h => by
    rw [nPt_take h]
    have := nPt_le (o := o) hl i (by omega)
    have := hl _ (List.getElem_mem h)
    omega
@[irreducible] def g22 (o : List (RD × RD)) (hs : List (List (RD × RD))) : Bool := g11 o hs || decide (12 < nPt o hs ∧ o.length ≤ 64 ∧ hs.length ≤ 8)
theorem great22_c (o : List (RD × RD)) (hs : List (List (RD × RD))) : Fun Tryz.prog 38 [pgR o hs] [.v (.bool (g22 o hs))] := by
  have hlo : (rL o).length = o.length := by simp
  have hlh : (hR hs).length = hs.length := by simp
  refine fun_of_go (fun t => false) mixed tOk Tryz.func38 rfl rfl ?_
  conv => whnf
  refine call_data rfl rfl (great11_c o hs) ?_
  conv => whnf
  refine cond_intro (fun c1 => ?_) (fun c1 => ?_)
  · rw [show g22 o hs = true by unfold g22; rw [c1]; rfl]
    conv => whnf
    exact ⟨rfl, trivial⟩
  have hG := g11_f c1
  have e0 : g22 o hs = decide (12 < nPt o hs ∧ o.length ≤ 64 ∧ hs.length ≤ 8) := by unfold g22; rw [c1]; rfl
  rw [e0]
  conv => whnf
  refine loop_intro (fun t => false) (fun i : Nat => ⟨fr 39 [(1, .d (.p 0 [.l (rL o), .l (hR hs)])), (3, .d (i64 (nPt o (hs.take i)))), (4, .d (i64 i))], []⟩) (fun i => i ≤ hs.length) (fun i => hs.length - i) 0 mixed tOk (by omega) ?_ ?_
  · have e : nPt o (hs.take 0) = (rL o).length := by simp [nPt]
    rw [e]
    refine weak_r ?_ ?_ <;> repeat' (first | exact trivial | exact rfl | refine And.intro ?_ ?_)
  · intro i hi
    have hle := nPt_le (o := o) hG.hl i hi
    have hGl := hG.lh
    have hGo := hG.lo
    conv => whnf
    refine cond_d (fun hlt => ?_) (fun hge => ?_)
    · have hlt' : i < hs.length := by omega
      have hi6 := hG.hl _ (List.getElem_mem hlt')
      have hst := nPt_take (o := o) hlt'
      have hget := hR_get hlt'
      have hll : (rL hs[i]).length = hs[i].length := List.length_map ..
      generalize hs[i] = h at *
      conv => whnf
      refine idx_intro (.l (rL h)) hget (by omega) (hR_uni _) ?_
      conv => whnf
      refine sd_d (by omega) ?_
      conv => whnf
      refine sd_d (by omega) ?_
      conv => whnf
      refine ⟨i + 1, by omega, by omega, ?_⟩
      rw [hst, Int.natCast_succ, Int.natCast_add, ← hll]
      refine weak_r ?_ ?_ <;> repeat' (first | exact trivial | exact rfl | refine And.intro ?_ ?_)
    · have : i = hs.length := by omega
      subst this
      rw [List.take_length] at hle ⊢
      conv => whnf
      refine cond_d (fun d1 => ?_) (fun d1 => ?_)
      · conv => whnf
        refine cond_d (fun d2 => ?_) (fun d2 => ?_)
        · conv => whnf
          refine ⟨?_, trivial⟩
          conv => whnf
          rw [bz_eq, decide_eq_decide]; omega
        · conv => whnf
          refine ⟨?_, trivial⟩
          conv => whnf
          rw [decide_eq_false (by omega)]
      · conv => whnf
        refine ⟨?_, trivial⟩
        conv => whnf
        rw [decide_eq_false (by omega)]
theorem greatP_c (o : List (RD × RD)) (hs : List (List (RD × RD))) (ps : List (RD × RD)) (hl : ps.length < 1000) (c r : Int) : Fun Tryz.prog 11 [pgR o hs, i64 c, i64 r, .l (ps.map fun p => ptR p.1 p.2)] [.v (.bool (g22 o hs || gtT ps c r))] := by
  refine fun_of_go (fun t => false) mixed tOk Tryz.func11 rfl rfl ?_
  conv => whnf
  refine call_data rfl rfl (great22_c o hs) ?_
  conv => whnf
  refine cond_intro (fun c1 => ?_) (fun c1 => ?_)
  · rw [c1]
    conv => whnf
    exact ⟨rfl, trivial⟩
  rw [c1, Bool.false_or]
  conv => whnf
  refine call_data rfl rfl (great7 ps hl) ?_
  conv => whnf
  have no : ps.any gtP = false → ¬ (1 ≤ c ∧ c ≤ 128 ∧ 1 ≤ r ∧ r ≤ 128 ∧ 36 < c * r) → gtT ps c r = false := fun h1 h2 => by unfold gtT; rw [h1, decide_eq_false h2]; rfl
  refine cond_intro (fun h => ?_) (fun h => ?_)
  · rw [show gtT ps c r = true by unfold gtT; rw [h]; rfl]
    conv => whnf
    exact ⟨rfl, trivial⟩
  conv => whnf
  refine cond_d (fun k1 => ?_) (fun k1 => ?_)
  rotate_left
  · rw [no h (by omega)]
    conv => whnf
    exact ⟨rfl, trivial⟩
  conv => whnf
  refine cond_d (fun k2 => ?_) (fun k2 => ?_)
  rotate_left
  · rw [no h (by omega)]
    conv => whnf
    exact ⟨rfl, trivial⟩
  conv => whnf
  refine cond_d (fun k3 => ?_) (fun k3 => ?_)
  rotate_left
  · rw [no h (by omega)]
    conv => whnf
    exact ⟨rfl, trivial⟩
  conv => whnf
  refine cond_d (fun k4 => ?_) (fun k4 => ?_)
  rotate_left
  · rw [no h (by omega)]
    conv => whnf
    exact ⟨rfl, trivial⟩
  conv => whnf
  have m1 : c * r ≤ 128 * 128 := Int.mul_le_mul k2 k4 (by omega) (by omega)
  have m2 : 0 < c * r := Int.mul_pos (by omega) (by omega)
  refine sd_d (by omega) ?_
  conv => whnf
  refine ⟨?_, trivial⟩
  conv => whnf
  rw [bz_eq]
  unfold gtT
  rw [h]
  simp only [Bool.false_or, decide_eq_decide]
  omega
end Go.Nv
end
section
namespace Go.Nv
open Go.Proofs Nw
set_option maxRecDepth 100000
set_option linter.unusedVariables false
set_option linter.unusedSimpArgs false
theorem qL_get {l : List Rat} {i : Nat} (h : i < l.length) : (qL l)[(i : Int).toNat]? = some (ratD l[i]) := by simp [h]
theorem idx71 {f : FuncId} {cap : List D} (g : Rat → Bool) (l : List Rat) (hl : l.length < 1000000000) (h : ∀ p ∈ l, Fun Tryz.prog f ([ratD p] ++ cap) [.v (.bool (g p))]) :
    Fun Tryz.prog 71 [.l (qL l), .f f cap] [i64 (fstI g l)] := by
  have hll : (qL l).length = l.length := by simp
  refine fun_of_go (fun t => false) mixed tOk Tryz.func71 rfl rfl ?_
  conv => whnf
  refine loop_intro (fun t => false) (fun i : Nat => ⟨fr 19 [(0, .d (.l (qL l))), (1, .d (.f f cap)), (7, .d (i64 (qL l).length)), (8, .d (i64 i))], []⟩) (fun i => i ≤ l.length ∧ ∀ j (hj : j < i) (hjl : j < l.length), g l[j] = false) (fun i => l.length - i) 0 mixed tOk ⟨by omega, fun j hj => by omega⟩ ?_ ?_
  · refine weak_r ?_ ?_ <;> repeat' (first | exact trivial | exact rfl | refine And.intro ?_ ?_)
  · rintro i ⟨hi, hno⟩
    conv => whnf
    refine cond_d (fun hlt => ?_) (fun hge => ?_)
    · have hlt' : i < l.length := by omega
      conv => whnf
      refine idx_intro (ratD l[i]) (qL_get hlt') (by omega) (qL_uni l) ?_
      conv => whnf
      refine call_data rfl rfl (h l[i] (List.getElem_mem _)) ?_
      conv => whnf
      refine cond_intro (fun h1 => ?_) (fun h1 => ?_)
      · rw [fstI_at hlt' (fun j hj => hno j hj (by omega)) h1]
        conv => whnf
        exact ⟨rfl, trivial⟩
      · conv => whnf
        refine sd_d (by omega) ?_
        conv => whnf
        refine ⟨i + 1, ⟨by omega, fun j hj hjl => ?_⟩, by omega, ?_⟩
        · by_cases hji : j = i
          · subst hji; exact h1
          · exact hno j (by omega) hjl
        rw [Int.natCast_succ]
        refine weak_r ?_ ?_ <;> repeat' (first | exact trivial | exact rfl | refine And.intro ?_ ?_)
    · have : i = l.length := by omega
      subst this
      rw [fstI_no (fun j hj => hno j hj hj)]
      conv => whnf
      exact ⟨rfl, trivial⟩
theorem contains18 {f : FuncId} {cap : List D} (g : Rat → Bool) (l : List Rat) (hl : l.length < 1000000000) (h : ∀ p ∈ l, Fun Tryz.prog f ([ratD p] ++ cap) [.v (.bool (g p))]) :
    Fun Tryz.prog 18 [.l (qL l), .f f cap] [.v (.bool (l.any g))] := by
  refine fun_of_go (fun t => false) mixed tOk Tryz.func18 rfl rfl ?_
  conv => whnf
  refine call_data rfl rfl (idx71 g l hl h) ?_
  conv => whnf
  refine ⟨?_, trivial⟩
  conv => whnf
  rw [bz_eq, ← fstI_any]
theorem eqDs_rat (p q : Rat) : eqDs [.v (.bool (rneg p)), .v (.string (rnum p)), .v (.string (rden p))] [.v (.bool (rneg q)), .v (.string (rnum q)), .v (.string (rden q))] = decide (p = q) := by
  unfold rneg rnum rden
  rw [eqDs_rd, decide_eq_decide]
  constructor
  · intro h; have h3 := congrArg RD.val h; rw [val_canon, val_canon] at h3; exact h3
  · rintro rfl; rfl
theorem ref1_c (q : Rat) (hq : Q q) : Fun Tryz.prog 19 [ratD q] [.v (.bool (!decide (q = 1)))] := by
  have h11 := of_r 1 (by omega)
  rw [Rat.intCast_one] at h11
  refine fun_of_go (fun t => false) mixed tOk Tryz.func19 rfl rfl ?_
  conv => whnf
  refine callv_data h11 ?_
  conv => whnf
  refine safe_intro (by kernel_rfl) ?_
  conv => whnf
  refine ⟨?_, trivial⟩
  conv => whnf
  rw [show eqDs (List.take ti27.cells (List.drop 0 (ratD q).cells)) [D.v (Value.bool (rneg 1)), D.v (Value.string (rnum 1)), D.v (Value.string (rden 1))] = decide (q = 1) from eqDs_rat q 1, bz_eq]
end Go.Nv
end
section
namespace Go.Nv
open Go.Proofs Nw
set_option maxRecDepth 100000
set_option linter.unusedVariables false
set_option linter.unusedSimpArgs false
theorem di_eq (a b : Int) : Rat.divInt a b = (a : Rat) / (b : Rat) := Rat.divInt_eq_div a b
theorem px_fine {x0 x1 : Rat} {c i : Int} (hc : 0 < c) : pxX x0 x1 (2 * c) (2 * i) = pxX x0 x1 c i ∧ pxX x0 x1 (2 * c) (2 * i + 1) = (pxX x0 x1 c i + pxX x0 x1 c (i + 1)) / 2 := by
  have hq : (c : Rat) ≠ 0 := by
    have : (0 : Rat) < (c : Rat) := by exact_mod_cast hc
    grind
  unfold pxX
  rw [di_eq, di_eq, di_eq, di_eq]
  push_cast
  constructor <;> grind
theorem py_fine {y0 y1 : Rat} {r i : Int} (hr : 0 < r) : pxY y0 y1 (2 * r) (2 * i) = pxY y0 y1 r i ∧ pxY y0 y1 (2 * r) (2 * i + 1) = (pxY y0 y1 r i + pxY y0 y1 r (i + 1)) / 2 := by
  have hq : (r : Rat) ≠ 0 := by
    have : (0 : Rat) < (r : Rat) := by exact_mod_cast hr
    grind
  unfold pxY
  rw [di_eq, di_eq, di_eq, di_eq]
  push_cast
  constructor <;> grind
theorem px_lt {x0 x1 : Rat} {c i : Int} (hc : 0 < c) (h : x0 < x1) : pxX x0 x1 c i < pxX x0 x1 c (i + 1) := by
  obtain ⟨h1, h2⟩ := ratio_step (i := i) hc
  unfold pxX
  rw [h1]
  have := Rat.mul_pos h2 (show 0 < x1 - x0 by grind)
  grind
theorem py_lt {y0 y1 : Rat} {r i : Int} (hr : 0 < r) (h : y0 < y1) : pxY y0 y1 r (i + 1) < pxY y0 y1 r i := by
  obtain ⟨h1, h2⟩ := ratio_step (i := i) hr
  unfold pxY
  rw [h1]
  have := Rat.mul_pos h2 (show 0 < y1 - y0 by grind)
  grind
theorem px_in {x0 x1 : Rat} {c i : Int} (hc : 0 < c) (h : x0 < x1) (hi : 0 ≤ i) (hic : i ≤ c) : x0 ≤ pxX x0 x1 c i ∧ pxX x0 x1 c i ≤ x1 := by
  have hq : (0 : Rat) < (c : Rat) := by exact_mod_cast hc
  have hi' : (0 : Rat) ≤ (i : Rat) := by exact_mod_cast hi
  have hic' : (i : Rat) ≤ (c : Rat) := by exact_mod_cast hic
  obtain ⟨u1, u2⟩ := div_unit hi' hic' hq
  unfold pxX
  rw [di_eq]
  have := Rat.mul_nonneg u1 (show 0 ≤ x1 - x0 by grind)
  have := Rat.mul_nonneg (show 0 ≤ 1 - (i : Rat) / (c : Rat) by grind) (show 0 ≤ x1 - x0 by grind)
  constructor <;> grind
theorem py_in {y0 y1 : Rat} {r i : Int} (hr : 0 < r) (h : y0 < y1) (hi : 0 ≤ i) (hir : i ≤ r) : y0 ≤ pxY y0 y1 r i ∧ pxY y0 y1 r i ≤ y1 := by
  have hq : (0 : Rat) < (r : Rat) := by exact_mod_cast hr
  have hi' : (0 : Rat) ≤ (i : Rat) := by exact_mod_cast hi
  have hir' : (i : Rat) ≤ (r : Rat) := by exact_mod_cast hir
  obtain ⟨u1, u2⟩ := div_unit hi' hir' hq
  unfold pxY
  rw [di_eq]
  have := Rat.mul_nonneg u1 (show 0 ≤ y1 - y0 by grind)
  have := Rat.mul_nonneg (show 0 ≤ 1 - (i : Rat) / (r : Rat) by grind) (show 0 ≤ y1 - y0 by grind)
  constructor <;> grind
theorem cvS_four {x0 xm x1 y0 ym y1 : Rat} (h1 : x0 < xm) (h2 : xm ≤ x1) (h3 : y0 < ym) (h4 : ym ≤ y1) (o : List P2) (hs : List (List P2)) :
    cvS x0 y0 x1 y1 o hs = cvS x0 ym xm y1 o hs + cvS xm ym x1 y1 o hs + cvS x0 y0 xm ym o hs + cvS xm y0 x1 ym o hs := by
  have w : ∀ l, wiQ x0 y0 x1 y1 l = wiQ x0 ym xm y1 l + wiQ xm ym x1 y1 l + wiQ x0 y0 xm ym l + wiQ xm y0 x1 ym l := fun l => by
    unfold wiQ; rw [boxA_four h1 h2 h3 h4]; grind
  have gen : ∀ (hs : List (List P2)) (s a b c d : Rat), s = a + b + c + d → hs.foldl (fun a h => a - wiQ x0 y0 x1 y1 h) s
      = hs.foldl (fun a h => a - wiQ x0 ym xm y1 h) a + hs.foldl (fun a h => a - wiQ xm ym x1 y1 h) b + hs.foldl (fun a h => a - wiQ x0 y0 xm ym h) c + hs.foldl (fun a h => a - wiQ xm y0 x1 ym h) d := by
    intro hs
    induction hs with
    | nil => intro s a b c d h; exact h
    | cons h hs ih =>
      intro s a b c d e
      simp only [List.foldl_cons]
      refine ih _ _ _ _ _ ?_
      rw [e, w h]; grind
  exact gen hs _ _ _ _ _ (w o)
theorem cvQ_mean {x0 x1 y0 y1 : Rat} (h1 : x0 < x1) (h2 : y0 < y1) (o : List P2) (hs : List (List P2)) :
    (cvQ x0 ((y0 + y1) / 2) ((x0 + x1) / 2) y1 o hs + cvQ ((x0 + x1) / 2) ((y0 + y1) / 2) x1 y1 o hs + cvQ x0 y0 ((x0 + x1) / 2) ((y0 + y1) / 2) o hs + cvQ ((x0 + x1) / 2) y0 x1 ((y0 + y1) / 2) o hs) * (1 / 4)
      = cvQ x0 y0 x1 y1 o hs := by
  have e := cvS_four (x0 := x0) (xm := (x0 + x1) / 2) (x1 := x1) (y0 := y0) (ym := (y0 + y1) / 2) (y1 := y1) (by grind) (by grind) (by grind) (by grind) o hs
  unfold cvQ
  rw [e]
  have a1 : ((x0 + x1) / 2 - x0) * (y1 - (y0 + y1) / 2) = (x1 - x0) * (y1 - y0) / 4 := by grind
  have a2 : (x1 - (x0 + x1) / 2) * (y1 - (y0 + y1) / 2) = (x1 - x0) * (y1 - y0) / 4 := by grind
  have a3 : ((x0 + x1) / 2 - x0) * ((y0 + y1) / 2 - y0) = (x1 - x0) * (y1 - y0) / 4 := by grind
  have a4 : (x1 - (x0 + x1) / 2) * ((y0 + y1) / 2 - y0) = (x1 - x0) * (y1 - y0) / 4 := by grind
  rw [a1, a2, a3, a4]
  have hp : 0 < (x1 - x0) * (y1 - y0) := Rat.mul_pos (by grind) (by grind)
  generalize (x1 - x0) * (y1 - y0) = z at *
  have hz : z ≠ 0 := by grind
  generalize cvS x0 ((y0 + y1) / 2) ((x0 + x1) / 2) y1 o hs = s1
  generalize cvS ((x0 + x1) / 2) ((y0 + y1) / 2) x1 y1 o hs = s2
  generalize cvS x0 y0 ((x0 + x1) / 2) ((y0 + y1) / 2) o hs = s3
  generalize cvS ((x0 + x1) / 2) y0 x1 ((y0 + y1) / 2) o hs = s4
  grind
theorem tdm {b q m : Int} (hb : 0 < b) (hq : 0 ≤ q) (hm : 0 ≤ m) (h : m < b) : Int.tmod (q * b + m) b = m ∧ Int.tdiv (q * b + m) b = q := by
  have h0 : 0 ≤ q * b := Int.mul_nonneg hq (by omega)
  rw [Int.tmod_eq_emod_of_nonneg (by omega), Int.tdiv_eq_ediv_of_nonneg (by omega)]
  constructor
  · rw [Int.add_comm, Int.add_mul_emod_self_right, Int.emod_eq_of_lt hm h]
  · rw [Int.add_comm, Int.add_mul_ediv_right _ _ (by omega), Int.ediv_eq_zero_of_lt hm h]; omega
theorem cvP_mean {x0 y0 x1 y1 : Rat} {c r : Int} (hx : x0 < x1) (hy : y0 < y1) (hc : 0 < c) (hr : 0 < r) (o : List P2) (hs : List (List P2)) {i j0 j1 j2 j3 : Nat}
    (e0 : (j0 : Int) = 2 * Int.tdiv i c * (2 * c) + 2 * Int.tmod i c) (e1 : (j1 : Int) = 2 * Int.tdiv i c * (2 * c) + (2 * Int.tmod i c + 1))
    (e2 : (j2 : Int) = (2 * Int.tdiv i c + 1) * (2 * c) + 2 * Int.tmod i c) (e3 : (j3 : Int) = (2 * Int.tdiv i c + 1) * (2 * c) + (2 * Int.tmod i c + 1)) :
    (0 + cvP x0 y0 x1 y1 (2 * c) (2 * r) o hs j0 + cvP x0 y0 x1 y1 (2 * c) (2 * r) o hs j1 + cvP x0 y0 x1 y1 (2 * c) (2 * r) o hs j2 + cvP x0 y0 x1 y1 (2 * c) (2 * r) o hs j3) * (1 / 4) = cvP x0 y0 x1 y1 c r o hs i := by
  have m0 := Int.tmod_nonneg (b := c) (a := (i : Int)) (by omega)
  have m1 := Int.tmod_lt_of_pos (i : Int) (b := c) (by omega)
  have q0 : 0 ≤ Int.tdiv (i : Int) c := Int.tdiv_nonneg (by omega) (by omega)
  have t0 := tdm (b := 2 * c) (q := 2 * Int.tdiv i c) (m := 2 * Int.tmod i c) (by omega) (by omega) (by omega) (by omega)
  have t1 := tdm (b := 2 * c) (q := 2 * Int.tdiv i c) (m := 2 * Int.tmod i c + 1) (by omega) (by omega) (by omega) (by omega)
  have t2 := tdm (b := 2 * c) (q := 2 * Int.tdiv i c + 1) (m := 2 * Int.tmod i c) (by omega) (by omega) (by omega) (by omega)
  have t3 := tdm (b := 2 * c) (q := 2 * Int.tdiv i c + 1) (m := 2 * Int.tmod i c + 1) (by omega) (by omega) (by omega) (by omega)
  rw [← e0] at t0
  rw [← e1] at t1
  rw [← e2] at t2
  rw [← e3] at t3
  unfold cvP pxQ
  simp only
  rw [t0.1, t0.2, t1.1, t1.2, t2.1, t2.2, t3.1, t3.2]
  generalize Int.tdiv (i : Int) c = q at *
  generalize Int.tmod (i : Int) c = m at *
  have a1 := px_fine (x0 := x0) (x1 := x1) (i := m) hc
  have a2 := px_fine (x0 := x0) (x1 := x1) (i := m + 1) hc
  have b1 := py_fine (y0 := y0) (y1 := y1) (i := q) hr
  have b2 := py_fine (y0 := y0) (y1 := y1) (i := q + 1) hr
  rw [show 2 * m + 1 + 1 = 2 * (m + 1) by omega, show 2 * q + 1 + 1 = 2 * (q + 1) by omega, a1.1, a1.2, a2.1, b1.1, b1.2, b2.1]
  have l1 := px_lt (i := m) hc hx
  have l2 := py_lt (i := q) hr hy
  have main := cvQ_mean l1 l2 o hs
  rw [← main]
  rw [show (pxY y0 y1 r (q + 1) + pxY y0 y1 r q) = (pxY y0 y1 r q + pxY y0 y1 r (q + 1)) by grind]
  grind
theorem cvP_whole {x0 y0 x1 y1 : Rat} {c r : Int} (hx : x0 < x1) (hy : y0 < y1) (hc : 0 < c) (hr : 0 < r) {i : Nat} (hi : (i : Int) < c * r) : cvP x0 y0 x1 y1 c r (rct x0 y0 x1 y1) [] i = 1 := by
  have m0 := Int.tmod_nonneg (b := c) (a := (i : Int)) (by omega)
  have m1 := Int.tmod_lt_of_pos (i : Int) (b := c) (by omega)
  have q0 : 0 ≤ Int.tdiv (i : Int) c := Int.tdiv_nonneg (by omega) (by omega)
  have q1 : Int.tdiv (i : Int) c < r := by
    rw [Int.tdiv_eq_ediv_of_nonneg (by omega)]
    exact Int.ediv_lt_of_lt_mul (by omega) (by rw [Int.mul_comm]; exact hi)
  unfold cvP pxQ cvQ cvS wiQ
  simp only [List.foldl_nil]
  generalize Int.tdiv (i : Int) c = q at *
  generalize Int.tmod (i : Int) c = m at *
  have l1 := px_lt (i := m) hc hx
  have l2 := py_lt (i := q) hr hy
  rw [rct_box (px_in hc hx (by omega) (by omega)).1 l1 (px_in hc hx (by omega) (by omega)).2 (py_in hr hy (by omega) (by omega)).1 l2 (py_in hr hy (by omega) (by omega)).2]
  have hp : 0 < (pxX x0 x1 c (m + 1) - pxX x0 x1 c m) * (pxY y0 y1 r q - pxY y0 y1 r (q + 1)) := Rat.mul_pos (by grind) (by grind)
  generalize (pxX x0 x1 c (m + 1) - pxX x0 x1 c m) * (pxY y0 y1 r q - pxY y0 y1 r (q + 1)) = z at *
  grind
end Go.Nv
end
section
namespace Go.Nv
open Go.Proofs Nw
set_option maxRecDepth 100000
set_option linter.unusedVariables false
set_option linter.unusedSimpArgs false
theorem law3a (hA : Fun Tryz.prog 12 [] [.v (.bool true)]) (o : List (RD × RD)) (hs : List (List (RD × RD))) (a b c d : RD) (m k : Int)
    (h : (g22 o hs || gtT [(a, b), (c, d)] m k) = true ∨ 3 < m ∨ 3 < k) : Fun Tryz.prog 3 [pgR o hs, quR a b c d, i64 m, i64 k] [.v (.bool true)] := by
  refine fun_of_go (fun t => t == 13 || t == 16 || t == 17 || t == 21) mixed tOk Tryz.func3 rfl rfl ?_
  conv => whnf
  refine call_data rfl rfl (greatP_c o hs [(a, b), (c, d)] (by simp) m k) ?_
  conv => whnf
  refine cond_intro (fun c1 => ?_) (fun c1 => ?_)
  · conv => whnf
    refine call_data rfl rfl hA ?_
    conv => whnf
    exact ⟨rfl, trivial⟩
  · conv => whnf
    refine cond_d (fun c2 => ?_) (fun c2 => ?_)
    · conv => whnf
      refine call_data rfl rfl hA ?_
      conv => whnf
      exact ⟨rfl, trivial⟩
    · have hk : 3 < k := by
        rcases h with h | h | h
        · rw [h] at c1; exact absurd c1 (by decide)
        · omega
        · omega
      conv => whnf
      refine cond_dt hk ?_
      conv => whnf
      refine call_data rfl rfl hA ?_
      conv => whnf
      exact ⟨rfl, trivial⟩
theorem law3e (hA : Fun Tryz.prog 12 [] [.v (.bool true)]) (o : List (RD × RD)) (hs : List (List (RD × RD))) (a b c d : RD) (m k : Int) {xs ys : List D} {f f' : Int}
    (h : (g22 o hs || gtT [(a, b), (c, d)] m k) = false) (hm : m ≤ 3) (hk : k ≤ 3) (h1 : Fun Tryz.prog 13 [pgR o hs, quR a b c d, i64 m, i64 k] [.l xs, i64 f]) (hf : f ≠ 0)
    (h2 : Fun Tryz.prog 13 [pgR o hs, quR a b c d, i64 (wr64 (2 * m)), i64 (wr64 (2 * k))] [.l ys, i64 f']) : Fun Tryz.prog 3 [pgR o hs, quR a b c d, i64 m, i64 k] [.v (.bool true)] := by
  have hg := greatP_c o hs [(a, b), (c, d)] (by simp) m k
  rw [h] at hg
  refine fun_of_go (fun t => t == 13 || t == 16 || t == 17 || t == 21) mixed tOk Tryz.func3 rfl rfl ?_
  conv => whnf
  refine call_data rfl rfl hg ?_
  conv => whnf
  refine cond_df (by omega) ?_
  conv => whnf
  refine cond_df (by omega) ?_
  conv => whnf
  refine call_data rfl rfl h1 ?_
  conv => whnf
  refine call_data rfl rfl h2 ?_
  conv => whnf
  refine cond_bt (by simpa using hf) ?_
  conv => whnf
  refine call_data rfl rfl hA ?_
  conv => whnf
  exact ⟨rfl, trivial⟩
end Go.Nv
end
section
namespace Go.Nv
open Go.Proofs Nw
set_option maxRecDepth 100000
set_option linter.unusedVariables false
set_option linter.unusedSimpArgs false
theorem cmpI_gt {p q : Rat} (h : q < p) : cmpI p q = 1 := by
  rw [cmpI_eq]; unfold cmpQ; rw [if_neg (by grind), if_pos (by grind)]
theorem cmpI_self (p : Rat) : cmpI p p = 0 := cmpI_zero.2 rfl
theorem cmP_gt {p q : P2} (h : q.1 < p.1 ∨ (q.1 = p.1 ∧ q.2 < p.2)) : cmP p q = 1 := by
  unfold cmP
  rcases h with h | ⟨h1, h2⟩
  · rw [cmpI_gt h, if_neg (by decide)]
  · rw [h1, cmpI_self, if_pos rfl, cmpI_gt h2]
theorem cmP_self (p : P2) : cmP p p = 0 := by unfold cmP; rw [cmpI_self, if_pos rfl, cmpI_self]
theorem mt_none {a b c d : P2} (h1 : crQ (su b a) (su d c) = 0) (h2 : crQ (su b a) (su c a) ≠ 0) : mtB a b c d = false := by
  have e : mtQ a b c d = none := by unfold mtQ; rw [if_pos h1, if_neg h2]
  unfold mtB; rw [e]; simp
section
variable {x0 y0 x1 y1 : Rat}
theorem rix0 : ix (rct x0 y0 x1 y1) 0 = (x0, y0) := rfl
theorem rix1 : ix (rct x0 y0 x1 y1) 1 = (x1, y0) := rfl
theorem rix2 : ix (rct x0 y0 x1 y1) 2 = (x1, y1) := rfl
theorem rix3 : ix (rct x0 y0 x1 y1) 3 = (x0, y1) := rfl
theorem rix4 : ix (rct x0 y0 x1 y1) 4 = (x0, y0) := by simp [ix, rct]
theorem rix5 : ix (rct x0 y0 x1 y1) 5 = (x1, y0) := by simp [ix, rct]
theorem rix6 : ix (rct x0 y0 x1 y1) 6 = (x1, y1) := by simp [ix, rct]
theorem rct_ring (hx : x0 < x1) (hy : y0 < y1) : rgE (rct x0 y0 x1 y1) = 0 := by
  have hp : 0 < (x1 - x0) * (y1 - y0) := Rat.mul_pos (by grind) (by grind)
  have hl : (rct x0 y0 x1 y1).length = 4 := rfl
  have f1 : fstI (flB (rct x0 y0 x1 y1)) (List.range 4) = -1 := fstI_no (fun j hj => by
    have hj4 : j < 4 := by simpa using hj
    rw [List.getElem_range]
    unfold flB
    refine decide_eq_false ?_
    unfold orI
    rw [sgnI_zero, hl]
    have : j = 0 ∨ j = 1 ∨ j = 2 ∨ j = 3 := by omega
    rcases this with rfl | rfl | rfl | rfl
    · show orQ (ix (rct x0 y0 x1 y1) 3) (ix (rct x0 y0 x1 y1) 0) (ix (rct x0 y0 x1 y1) 1) ≠ 0
      rw [rix3, rix0, rix1]; simp only [orQ]; grind
    · show orQ (ix (rct x0 y0 x1 y1) 4) (ix (rct x0 y0 x1 y1) 1) (ix (rct x0 y0 x1 y1) 2) ≠ 0
      rw [rix4, rix1, rix2]; simp only [orQ]; grind
    · show orQ (ix (rct x0 y0 x1 y1) 5) (ix (rct x0 y0 x1 y1) 2) (ix (rct x0 y0 x1 y1) 3) ≠ 0
      rw [rix5, rix2, rix3]; simp only [orQ]; grind
    · show orQ (ix (rct x0 y0 x1 y1) 6) (ix (rct x0 y0 x1 y1) 3) (ix (rct x0 y0 x1 y1) 4) ≠ 0
      rw [rix6, rix3, rix4]; simp only [orQ]; grind)
  have f2 : crB (rct x0 y0 x1 y1) = false := crB_f (fun i k hi hk => by
    rw [hl] at hi hk
    unfold xB
    by_cases h1 : i + 2 ≤ k
    · by_cases h2 : i = 0 ∧ k = 3
      · rw [decide_eq_true h2.1, hl, decide_eq_true (show k = 4 - 1 from h2.2)]; simp
      · have : (i = 0 ∧ k = 2) ∨ (i = 1 ∧ k = 3) := by omega
        have e : mtB (ed (rct x0 y0 x1 y1) i).1 (ed (rct x0 y0 x1 y1) i).2 (ed (rct x0 y0 x1 y1) k).1 (ed (rct x0 y0 x1 y1) k).2 = false := by
          rcases this with ⟨rfl, rfl⟩ | ⟨rfl, rfl⟩
          · show mtB (ix (rct x0 y0 x1 y1) 0) (ix (rct x0 y0 x1 y1) 1) (ix (rct x0 y0 x1 y1) 2) (ix (rct x0 y0 x1 y1) 3) = false
            rw [rix0, rix1, rix2, rix3]
            exact mt_none (by simp only [crQ, su]; grind) (by simp only [crQ, su]; grind)
          · show mtB (ix (rct x0 y0 x1 y1) 1) (ix (rct x0 y0 x1 y1) 2) (ix (rct x0 y0 x1 y1) 3) (ix (rct x0 y0 x1 y1) 4) = false
            rw [rix4, rix1, rix2, rix3]
            exact mt_none (by simp only [crQ, su]; grind) (by simp only [crQ, su]; grind)
        rw [e]; simp
    · rw [decide_eq_false h1]; rfl)
  have f3 : tot crQ (rct x0 y0 x1 y1) / 2 = (x1 - x0) * (y1 - y0) := by
    simp only [rct, tot, cyc, prs, List.cons_append, List.nil_append, sumE, crQ]; grind
  have f4 : kf (rct x0 y0 x1 y1) 4 = 0 := by
    have k1 : kf (rct x0 y0 x1 y1) 1 = 0 := by unfold kf; rw [show kf (rct x0 y0 x1 y1) 0 = 0 from rfl, cmP_self]; rfl
    have k2 : kf (rct x0 y0 x1 y1) 2 = 0 := by unfold kf; rw [k1, rix1, rix0, cmP_gt (.inl hx)]; rfl
    have k3 : kf (rct x0 y0 x1 y1) 3 = 0 := by unfold kf; rw [k2, rix2, rix0, cmP_gt (.inl hx)]; rfl
    unfold kf; rw [k3, rix3, rix0, cmP_gt (p := (x0, y1)) (q := (x0, y0)) (.inr ⟨rfl, hy⟩)]; rfl
  have f5 : ¬ sgnI ((x1 - x0) * (y1 - y0)) ≤ 0 := by
    rcases sgnI_rng ((x1 - x0) * (y1 - y0)) with h | h | h
    · rw [sgnI_eq] at h; have := sgnQ_neg.1 (show sgnQ ((x1 - x0) * (y1 - y0)) < 0 by omega); grind
    · rw [sgnI_zero] at h; grind
    · omega
  unfold rgE
  rw [hl, if_neg (by omega), f1, if_neg (by decide), f2, if_neg (by decide), f3, f4, if_neg (by rintro (h | h); exact f5 h; exact h rfl)]
theorem rct_pg (hx : x0 < x1) (hy : y0 < y1) : pgE ((rct x0 y0 x1 y1).map cP) [] = 0 := by
  have e : rgR ((rct x0 y0 x1 y1).map cP) = 0 := by
    unfold rgR
    rw [List.length_map, if_neg (by show ¬ ((4 : Nat) < 3 ∨ 64 < 4); omega), if_pos (all_cP _), vP_map, rct_ring hx hy]
  unfold pgE
  rw [e, if_neg (fun h => h rfl), if_neg (by simp)]
  rfl
end
end Go.Nv
end
