import Derived.Test.YtdjbkccoofcnjaaGreatNvD4
set_option linter.all false
set_option linter.unusedVariables false
set_option linter.unusedSimpArgs false
section
namespace Go.Nv
open Go.Proofs Nw
set_option maxRecDepth 100000
set_option linter.unusedVariables false
set_option linter.unusedSimpArgs false
def gtH (h : List (RD × RD)) : Bool := decide (6 < h.length) || h.any gtP
@[irreducible] def g11 (o : List (RD × RD)) (hs : List (List (RD × RD))) : Bool :=
  decide ((10 < o.length ∧ o.length ≤ 64) ∨ 67 < o.length) || (o.any gtP || ((hs.take 11).any gtH || decide ((3 < hs.length ∧ hs.length ≤ 8) ∨ 10 < hs.length)))
theorem great11_c (o : List (RD × RD)) (hs : List (List (RD × RD))) : Fun Tryz.prog 102 [pgR o hs] [.v (.bool (g11 o hs))] := by
  have hlo : (rL o).length = o.length := by simp
  have hlh : (hR hs).length = hs.length := by simp
  have t1 : ((10 < o.length ∧ o.length ≤ 64) ∨ 67 < o.length) → g11 o hs = true := fun h => by unfold g11; rw [decide_eq_true h]; rfl
  have t2 : o.any gtP = true → g11 o hs = true := fun h => by unfold g11; rw [h]; simp
  have t3 : (hs.take 11).any gtH = true → g11 o hs = true := fun h => by unfold g11; rw [h]; simp
  refine fun_of_go (fun t => false) mixed tOk Tryz.func102 rfl rfl ?_
  conv => whnf
  refine cond_d (fun c1 => ?_) (fun c1 => ?_)
  · conv => whnf
    refine cond_d (fun c2 => ?_) (fun c2 => ?_)
    · rw [t1 (.inl (by omega))]
      conv => whnf
      exact ⟨rfl, trivial⟩
    · conv => whnf
      refine cond_d (fun c3 => ?_) (fun c3 => ?_)
      · rw [t1 (.inr (by omega))]
        conv => whnf
        exact ⟨rfl, trivial⟩
      · have Y0 : ¬ ((10 < o.length ∧ o.length ≤ 64) ∨ 67 < o.length) := by omega
        conv => whnf
        refine call_data rfl rfl (great7 o (by omega)) ?_
        conv => whnf
        refine cond_intro (fun c2 => ?_) (fun c2 => ?_)
        · rw [t2 c2]
          conv => whnf
          exact ⟨rfl, trivial⟩
        · have Z : ¬ ((10 < o.length ∧ o.length ≤ 64) ∨ 67 < o.length) ∧ o.any gtP = false := ⟨Y0, c2⟩
          conv => whnf
          refine loop_intro (fun t => false) (fun i : Nat => ⟨fr 65 [(1, .d (.p 0 [.l (rL o), .l (hR hs)])), (4, .d (i64 i))], []⟩) (fun i => i ≤ hs.length ∧ i ≤ 11 ∧ (hs.take i).any gtH = false) (fun i => hs.length - i) 0 mixed tOk ⟨by omega, by omega, rfl⟩ ?_ ?_
          · refine weak_r ?_ ?_ <;> repeat' (first | exact trivial | exact rfl | refine And.intro ?_ ?_)
          · rintro i ⟨hi, hi2, hno⟩
            have fin : (hs.length ≤ i ∨ 11 ≤ i) → (hs.take 11).any gtH = false := fun h => by
              rcases h with h | h
              · have : i = hs.length := by omega
                subst this
                rw [List.take_length] at hno
                rw [List.any_eq_false] at hno ⊢
                exact fun x hx => hno x (List.mem_of_mem_take hx)
              · have : i = 11 := by omega
                subst this; exact hno
            conv => whnf
            refine cond_d (fun hlt => ?_) (fun hge => ?_)
            · have hlt' : i < hs.length := by omega
              conv => whnf
              refine cond_d (fun h11 => ?_) (fun h11 => ?_)
              · have tk : (hs.take (i + 1)).any gtH = ((hs.take i).any gtH || gtH hs[i]) := by rw [List.take_succ_eq_append_getElem hlt', List.any_append]; simp
                have hin : gtH hs[i] = true → (hs.take 11).any gtH = true := fun h => List.any_eq_true.2 ⟨hs[i], List.mem_take_iff_getElem.2 ⟨i, by omega, rfl⟩, h⟩
                have hll : (rL hs[i]).length = hs[i].length := List.length_map ..
                have hget := hR_get hlt'
                generalize hs[i] = h at *
                conv => whnf
                refine idx_intro (.l (rL h)) hget (by omega) (hR_uni _) ?_
                conv => whnf
                refine cond_d (fun d1 => ?_) (fun d1 => ?_)
                · rw [t3 (hin (by unfold gtH; rw [decide_eq_true (by omega)]; rfl))]
                  conv => whnf
                  exact ⟨rfl, trivial⟩
                · conv => whnf
                  refine idx_intro (.l (rL h)) hget (by omega) (hR_uni _) ?_
                  conv => whnf
                  refine call_data rfl rfl (great7 h (by omega)) ?_
                  conv => whnf
                  refine cond_intro (fun d2 => ?_) (fun d2 => ?_)
                  · rw [t3 (hin (by unfold gtH; rw [d2]; simp))]
                    conv => whnf
                    exact ⟨rfl, trivial⟩
                  · conv => whnf
                    refine sd_d (by omega) ?_
                    conv => whnf
                    refine ⟨i + 1, ⟨by omega, by omega, ?_⟩, by omega, ?_⟩
                    · rw [tk, hno]; unfold gtH; rw [d2, decide_eq_false (by omega)]; rfl
                    rw [Int.natCast_succ]
                    refine weak_r ?_ ?_ <;> repeat' (first | exact trivial | exact rfl | refine And.intro ?_ ?_)
              · have e : g11 o hs = decide ((3 < hs.length ∧ hs.length ≤ 8) ∨ 10 < hs.length) := by
                  unfold g11; rw [decide_eq_false Z.1, Z.2, fin (.inr (by omega))]; rfl
                rw [e]
                conv => whnf
                refine cond_d (fun d1 => ?_) (fun d1 => ?_)
                · conv => whnf
                  refine cond_d (fun d2 => ?_) (fun d2 => ?_)
                  · conv => whnf
                    refine ⟨?_, trivial⟩
                    conv => whnf
                    rw [decide_eq_true (by omega)]
                  · conv => whnf
                    refine ⟨?_, trivial⟩
                    conv => whnf
                    rw [bz_eq, decide_eq_decide]; omega
                · conv => whnf
                  refine ⟨?_, trivial⟩
                  conv => whnf
                  rw [bz_eq, decide_eq_decide]; omega
            · have e : g11 o hs = decide ((3 < hs.length ∧ hs.length ≤ 8) ∨ 10 < hs.length) := by
                unfold g11; rw [decide_eq_false Z.1, Z.2, fin (.inl (by omega))]; rfl
              rw [e]
              conv => whnf
              refine cond_d (fun d1 => ?_) (fun d1 => ?_)
              · conv => whnf
                refine cond_d (fun d2 => ?_) (fun d2 => ?_)
                · conv => whnf
                  refine ⟨?_, trivial⟩
                  conv => whnf
                  rw [decide_eq_true (by omega)]
                · conv => whnf
                  refine ⟨?_, trivial⟩
                  conv => whnf
                  rw [bz_eq, decide_eq_decide]; omega
              · conv => whnf
                refine ⟨?_, trivial⟩
                conv => whnf
                rw [bz_eq, decide_eq_decide]; omega
  · conv => whnf
    refine cond_d (fun c3 => ?_) (fun c3 => ?_)
    · rw [t1 (.inr (by omega))]
      conv => whnf
      exact ⟨rfl, trivial⟩
    · have Y0 : ¬ ((10 < o.length ∧ o.length ≤ 64) ∨ 67 < o.length) := by omega
      conv => whnf
      refine call_data rfl rfl (great7 o (by omega)) ?_
      conv => whnf
      refine cond_intro (fun c2 => ?_) (fun c2 => ?_)
      · rw [t2 c2]
        conv => whnf
        exact ⟨rfl, trivial⟩
      · have Z : ¬ ((10 < o.length ∧ o.length ≤ 64) ∨ 67 < o.length) ∧ o.any gtP = false := ⟨Y0, c2⟩
        conv => whnf
        refine loop_intro (fun t => false) (fun i : Nat => ⟨fr 65 [(1, .d (.p 0 [.l (rL o), .l (hR hs)])), (4, .d (i64 i))], []⟩) (fun i => i ≤ hs.length ∧ i ≤ 11 ∧ (hs.take i).any gtH = false) (fun i => hs.length - i) 0 mixed tOk ⟨by omega, by omega, rfl⟩ ?_ ?_
        · refine weak_r ?_ ?_ <;> repeat' (first | exact trivial | exact rfl | refine And.intro ?_ ?_)
        · rintro i ⟨hi, hi2, hno⟩
          have fin : (hs.length ≤ i ∨ 11 ≤ i) → (hs.take 11).any gtH = false := fun h => by
            rcases h with h | h
            · have : i = hs.length := by omega
              subst this
              rw [List.take_length] at hno
              rw [List.any_eq_false] at hno ⊢
              exact fun x hx => hno x (List.mem_of_mem_take hx)
            · have : i = 11 := by omega
              subst this; exact hno
          conv => whnf
          refine cond_d (fun hlt => ?_) (fun hge => ?_)
          · have hlt' : i < hs.length := by omega
            conv => whnf
            refine cond_d (fun h11 => ?_) (fun h11 => ?_)
            · have tk : (hs.take (i + 1)).any gtH = ((hs.take i).any gtH || gtH hs[i]) := by rw [List.take_succ_eq_append_getElem hlt', List.any_append]; simp
              have hin : gtH hs[i] = true → (hs.take 11).any gtH = true := fun h => List.any_eq_true.2 ⟨hs[i], List.mem_take_iff_getElem.2 ⟨i, by omega, rfl⟩, h⟩
              have hll : (rL hs[i]).length = hs[i].length := List.length_map ..
              have hget := hR_get hlt'
              generalize hs[i] = h at *
              conv => whnf
              refine idx_intro (.l (rL h)) hget (by omega) (hR_uni _) ?_
              conv => whnf
              refine cond_d (fun d1 => ?_) (fun d1 => ?_)
              · rw [t3 (hin (by unfold gtH; rw [decide_eq_true (by omega)]; rfl))]
                conv => whnf
                exact ⟨rfl, trivial⟩
              · conv => whnf
                refine idx_intro (.l (rL h)) hget (by omega) (hR_uni _) ?_
                conv => whnf
                refine call_data rfl rfl (great7 h (by omega)) ?_
                conv => whnf
                refine cond_intro (fun d2 => ?_) (fun d2 => ?_)
                · rw [t3 (hin (by unfold gtH; rw [d2]; simp))]
                  conv => whnf
                  exact ⟨rfl, trivial⟩
                · conv => whnf
                  refine sd_d (by omega) ?_
                  conv => whnf
                  refine ⟨i + 1, ⟨by omega, by omega, ?_⟩, by omega, ?_⟩
                  · rw [tk, hno]; unfold gtH; rw [d2, decide_eq_false (by omega)]; rfl
                  rw [Int.natCast_succ]
                  refine weak_r ?_ ?_ <;> repeat' (first | exact trivial | exact rfl | refine And.intro ?_ ?_)
            · have e : g11 o hs = decide ((3 < hs.length ∧ hs.length ≤ 8) ∨ 10 < hs.length) := by
                unfold g11; rw [decide_eq_false Z.1, Z.2, fin (.inr (by omega))]; rfl
              rw [e]
              conv => whnf
              refine cond_d (fun d1 => ?_) (fun d1 => ?_)
              · conv => whnf
                refine cond_d (fun d2 => ?_) (fun d2 => ?_)
                · conv => whnf
                  refine ⟨?_, trivial⟩
                  conv => whnf
                  rw [decide_eq_true (by omega)]
                · conv => whnf
                  refine ⟨?_, trivial⟩
                  conv => whnf
                  rw [bz_eq, decide_eq_decide]; omega
              · conv => whnf
                refine ⟨?_, trivial⟩
                conv => whnf
                rw [bz_eq, decide_eq_decide]; omega
          · have e : g11 o hs = decide ((3 < hs.length ∧ hs.length ≤ 8) ∨ 10 < hs.length) := by
              unfold g11; rw [decide_eq_false Z.1, Z.2, fin (.inl (by omega))]; rfl
            rw [e]
            conv => whnf
            refine cond_d (fun d1 => ?_) (fun d1 => ?_)
            · conv => whnf
              refine cond_d (fun d2 => ?_) (fun d2 => ?_)
              · conv => whnf
                refine ⟨?_, trivial⟩
                conv => whnf
                rw [decide_eq_true (by omega)]
              · conv => whnf
                refine ⟨?_, trivial⟩
                conv => whnf
                rw [bz_eq, decide_eq_decide]; omega
            · conv => whnf
              refine ⟨?_, trivial⟩
              conv => whnf
              rw [bz_eq, decide_eq_decide]; omega
end Go.Nv
end
section
namespace Go.Nv
open Go.Proofs Nw
set_option maxRecDepth 100000
set_option linter.unusedVariables false
set_option linter.unusedSimpArgs false
theorem any_take {α : Type} {g : α → Bool} {l : List α} {n : Nat} (h : (l.take n).any g = false) (hn : l.length ≤ n) : ∀ x ∈ l, g x = false := by
  rw [List.take_of_length_le hn, List.any_eq_false] at h
  intro x hx
  have := h x hx
  simpa using this
structure G11 (o : List (RD × RD)) (hs : List (List (RD × RD))) : Prop where
  lo : o.length ≤ 67
  lh : hs.length ≤ 10
  ob : ∀ p ∈ o, gtP p = false
  hb : ∀ h ∈ hs, ∀ p ∈ h, gtP p = false
  hl : ∀ h ∈ hs, h.length ≤ 6
theorem g11_f {o : List (RD × RD)} {hs : List (List (RD × RD))} (h : g11 o hs = false) : G11 o hs := by
  unfold g11 at h
  rw [Bool.or_eq_false_iff, Bool.or_eq_false_iff, Bool.or_eq_false_iff, decide_eq_false_iff_not, decide_eq_false_iff_not] at h
  obtain ⟨h1, h2, h3, h4⟩ := h
  have h5 := any_take h3 (by omega)
  refine ⟨by omega, by omega, fun p hp => ?_, fun x hx p hp => ?_, fun x hx => ?_⟩
  · rw [List.any_eq_false] at h2; have := h2 p hp; simpa using this
  · have := h5 x hx
    unfold gtH at this
    rw [Bool.or_eq_false_iff, List.any_eq_false] at this
    have := this.2 p hp; simpa using this
  · have := h5 x hx
    unfold gtH at this
    rw [Bool.or_eq_false_iff, decide_eq_false_iff_not] at this
    omega
def nPt (o : List (RD × RD)) (hs : List (List (RD × RD))) : Nat := o.length + (hs.map List.length).sum
theorem nPt_take {o : List (RD × RD)} {hs : List (List (RD × RD))} {i : Nat} (h : i < hs.length) : nPt o (hs.take (i + 1)) = nPt o (hs.take i) + hs[i].length := by
  unfold nPt; rw [List.take_succ_eq_append_getElem h, List.map_append, List.sum_append]; simp; omega
theorem nPt_le {o : List (RD × RD)} {hs : List (List (RD × RD))} (hl : ∀ h ∈ hs, h.length ≤ 6) : ∀ i, i ≤ hs.length → nPt o (hs.take i) ≤ o.length + 6 * i
  | 0, _ => by simp [nPt]
  | i + 1, h => by
    rw [nPt_take h]
    have := nPt_le (o := o) hl i (by omega)
    have := hl _ (List.getElem_mem h)
    omega
@[irreducible] def g22 (o : List (RD × RD)) (hs : List (List (RD × RD))) : Bool := g11 o hs || decide (12 < nPt o hs ∧ o.length ≤ 64 ∧ hs.length ≤ 8)
theorem great22_c (o : List (RD × RD)) (hs : List (List (RD × RD))) : Fun Tryz.prog 38 [pgR o hs] [.v (.bool (g22 o hs))] := by
  have hlo : (rL o).length = o.length := by simp
  have hlh : (hR hs).length = hs.length := by simp
  refine fun_of_go (fun t => false) mixed tOk Tryz.func38 rfl rfl ?_
  conv => whnf
  refine call_data rfl rfl (great11_c o hs) ?_
  conv => whnf
  refine cond_intro (fun c1 => ?_) (fun c1 => ?_)
  · rw [show g22 o hs = true by unfold g22; rw [c1]; rfl]
    conv => whnf
    exact ⟨rfl, trivial⟩
  have hG := g11_f c1
  have e0 : g22 o hs = decide (12 < nPt o hs ∧ o.length ≤ 64 ∧ hs.length ≤ 8) := by unfold g22; rw [c1]; rfl
  rw [e0]
  conv => whnf
  refine loop_intro (fun t => false) (fun i : Nat => ⟨fr 39 [(1, .d (.p 0 [.l (rL o), .l (hR hs)])), (3, .d (i64 (nPt o (hs.take i)))), (4, .d (i64 i))], []⟩) (fun i => i ≤ hs.length) (fun i => hs.length - i) 0 mixed tOk (by omega) ?_ ?_
  · have e : nPt o (hs.take 0) = (rL o).length := by simp [nPt]
    rw [e]
    refine weak_r ?_ ?_ <;> repeat' (first | exact trivial | exact rfl | refine And.intro ?_ ?_)
  · intro i hi
    have hle := nPt_le (o := o) hG.hl i hi
    have hGl := hG.lh
    have hGo := hG.lo
    conv => whnf
    refine cond_d (fun hlt => ?_) (fun hge => ?_)
    · have hlt' : i < hs.length := by omega
      have hi6 := hG.hl _ (List.getElem_mem hlt')
      have hst := nPt_take (o := o) hlt'
      have hget := hR_get hlt'
      have hll : (rL hs[i]).length = hs[i].length := List.length_map ..
      generalize hs[i] = h at *
      conv => whnf
      refine idx_intro (.l (rL h)) hget (by omega) (hR_uni _) ?_
      conv => whnf
      refine sd_d (by omega) ?_
      conv => whnf
      refine sd_d (by omega) ?_
      conv => whnf
      refine ⟨i + 1, by omega, by omega, ?_⟩
      rw [hst, Int.natCast_succ, Int.natCast_add, ← hll]
      refine weak_r ?_ ?_ <;> repeat' (first | exact trivial | exact rfl | refine And.intro ?_ ?_)
    · have : i = hs.length := by omega
      subst this
      rw [List.take_length] at hle ⊢
      conv => whnf
      refine cond_d (fun d1 => ?_) (fun d1 => ?_)
      · conv => whnf
        refine cond_d (fun d2 => ?_) (fun d2 => ?_)
        · conv => whnf
          refine ⟨?_, trivial⟩
          conv => whnf
          rw [bz_eq, decide_eq_decide]; omega
        · conv => whnf
          refine ⟨?_, trivial⟩
          conv => whnf
          rw [decide_eq_false (by omega)]
      · conv => whnf
        refine ⟨?_, trivial⟩
        conv => whnf
        rw [decide_eq_false (by omega)]
theorem greatP_c (o : List (RD × RD)) (hs : List (List (RD × RD))) (ps : List (RD × RD)) (hl : ps.length < 1000) (c r : Int) : Fun Tryz.prog 11 [pgR o hs, i64 c, i64 r, .l (ps.map fun p => ptR p.1 p.2)] [.v (.bool (g22 o hs || gtT ps c r))] := by
  refine fun_of_go (fun t => false) mixed tOk Tryz.func11 rfl rfl ?_
  conv => whnf
  refine call_data rfl rfl (great22_c o hs) ?_
  conv => whnf
  refine cond_intro (fun c1 => ?_) (fun c1 => ?_)
  · rw [c1]
    conv => whnf
    exact ⟨rfl, trivial⟩
  rw [c1, Bool.false_or]
  conv => whnf
  refine call_data rfl rfl (great7 ps hl) ?_
  conv => whnf
  have no : ps.any gtP = false → ¬ (1 ≤ c ∧ c ≤ 128 ∧ 1 ≤ r ∧ r ≤ 128 ∧ 36 < c * r) → gtT ps c r = false := fun h1 h2 => by unfold gtT; rw [h1, decide_eq_false h2]; rfl
  refine cond_intro (fun h => ?_) (fun h => ?_)
  · rw [show gtT ps c r = true by unfold gtT; rw [h]; rfl]
    conv => whnf
    exact ⟨rfl, trivial⟩
  conv => whnf
  refine cond_d (fun k1 => ?_) (fun k1 => ?_)
  rotate_left
  · rw [no h (by omega)]
    conv => whnf
    exact ⟨rfl, trivial⟩
  conv => whnf
  refine cond_d (fun k2 => ?_) (fun k2 => ?_)
  rotate_left
  · rw [no h (by omega)]
    conv => whnf
    exact ⟨rfl, trivial⟩
  conv => whnf
  refine cond_d (fun k3 => ?_) (fun k3 => ?_)
  rotate_left
  · rw [no h (by omega)]
    conv => whnf
    exact ⟨rfl, trivial⟩
  conv => whnf
  refine cond_d (fun k4 => ?_) (fun k4 => ?_)
  rotate_left
  · rw [no h (by omega)]
    conv => whnf
    exact ⟨rfl, trivial⟩
  conv => whnf
  have m1 : c * r ≤ 128 * 128 := Int.mul_le_mul k2 k4 (by omega) (by omega)
  have m2 : 0 < c * r := Int.mul_pos (by omega) (by omega)
  refine sd_d (by omega) ?_
  conv => whnf
  refine ⟨?_, trivial⟩
  conv => whnf
  rw [bz_eq]
  unfold gtT
  rw [h]
  simp only [Bool.false_or, decide_eq_decide]
  omega
end Go.Nv
end
section
namespace Go.Nv
open Go.Proofs Nw
set_option maxRecDepth 100000
set_option linter.unusedVariables false
set_option linter.unusedSimpArgs false
end Go.Nv
end
section
namespace Go.Nv
open Go.Proofs Nw
set_option maxRecDepth 100000
set_option linter.unusedVariables false
set_option linter.unusedSimpArgs false
end Go.Nv
end
