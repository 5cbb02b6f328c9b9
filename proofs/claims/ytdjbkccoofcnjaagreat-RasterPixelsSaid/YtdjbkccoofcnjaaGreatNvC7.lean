import Derived.Test.YtdjbkccoofcnjaaGreatNvC6
set_option linter.all false
set_option linter.unusedVariables false
set_option linter.unusedSimpArgs false
section
namespace Go.Nv
open Go.Proofs Nw
set_option maxRecDepth 100000
set_option linter.unusedVariables false
set_option linter.unusedSimpArgs false
def clStep (f t : Rat) (p : Rat × Rat) : Option (Rat × Rat) :=
  if t - f = 0 then (if f < 0 then none else some p)
  else if 0 < t - f ∧ p.1 < -f / (t - f) then some (-f / (t - f), p.2)
  else if t - f < 0 ∧ -f / (t - f) < p.2 then some (p.1, -f / (t - f))
  else some p
def sdQ (x0 y0 x1 y1 x y : Rat) : Nat → Rat
  | 0 => x - x0
  | 1 => x1 - x
  | 2 => y - y0
  | _ => y1 - y
def clTo (x0 y0 x1 y1 xa ya xb yb : Rat) : Nat → Option (Rat × Rat)
  | 0 => some (0, 1)
  | j + 1 => (clTo x0 y0 x1 y1 xa ya xb yb j).bind (clStep (sdQ x0 y0 x1 y1 xa ya j) (sdQ x0 y0 x1 y1 xb yb j))
theorem clStep_bd {f t : Rat} {p q : Rat × Rat} {n : Nat} (hf : Bd n f) (ht : Bd n t) (hp : Bd (3 * n + 1) p.1 ∧ Bd (3 * n + 1) p.2) (h : clStep f t p = some q) : Bd (3 * n + 1) q.1 ∧ Bd (3 * n + 1) q.2 := by
  have hd : Bd (3 * n + 1) (-f / (t - f)) := (hf.neg.div (ht.sub hf)).mono (by omega)
  unfold clStep at h
  split at h
  · split at h
    · simp at h
    · simp at h; subst h; exact hp
  · split at h
    · simp at h; subst h; exact ⟨hd, hp.2⟩
    · split at h
      · simp at h; subst h; exact ⟨hp.1, hd⟩
      · simp at h; subst h; exact hp
def clSt (xa ya xb yb : Rat) (x0 y0 x1 y1 : Rat) (j : Nat) (lo hi : Rat) : St :=
  ⟨fr 117 [(2, .d (.p 0 (quD xa ya xb yb).cells)), (4, .ptr 0 0 0), (5, .d (.v (.bool false))), (6, .d (i64 0)), (7, .ptr 1 0 0), (8, .ptr 2 0 0),
    (42, .d (.a [.f 156 [.p 0 (quD x0 y0 x1 y1).cells], .f 157 [.p 0 (quD x0 y0 x1 y1).cells], .f 158 [.p 0 (quD x0 y0 x1 y1).cells], .f 159 [.p 0 (quD x0 y0 x1 y1).cells]])), (43, .d (i64 j))],
   [.box 46 [.d (.v (.bool false)), .d (.v (.string ⟨#[]⟩)), .d (.v (.string ⟨#[]⟩)), .d (.v (.bool false)), .d (.v (.string ⟨#[]⟩)), .d (.v (.string ⟨#[]⟩)),
      .d (.v (.bool false)), .d (.v (.string ⟨#[]⟩)), .d (.v (.string ⟨#[]⟩)), .d (.v (.bool false)), .d (.v (.string ⟨#[]⟩)), .d (.v (.string ⟨#[]⟩))],
    .box 27 [.d (.v (.bool (rneg lo))), .d (.v (.string (rnum lo))), .d (.v (.string (rden lo)))],
    .box 27 [.d (.v (.bool (rneg hi))), .d (.v (.string (rnum hi))), .d (.v (.string (rden hi)))]]⟩
theorem clTo_none {x0 y0 x1 y1 xa ya xb yb : Rat} {j : Nat} (h : clTo x0 y0 x1 y1 xa ya xb yb (j + 1) = none) : ∀ m, clTo x0 y0 x1 y1 xa ya xb yb (j + 1 + m) = none
  | 0 => h
  | m + 1 => by
    show (clTo x0 y0 x1 y1 xa ya xb yb (j + 1 + m)).bind _ = none
    rw [clTo_none h m]; rfl
@[irreducible] def clV (x0 y0 x1 y1 xa ya xb yb : Rat) : Rat × Rat × Rat × Rat :=
  match clTo x0 y0 x1 y1 xa ya xb yb 4 with
  | none => (0, 0, 0, 0)
  | some p => if p.2 < p.1 then (0, 0, 0, 0) else (xa + (xb - xa) * p.1, ya + (yb - ya) * p.1, xa + (xb - xa) * p.2, ya + (yb - ya) * p.2)
@[irreducible] def clB (x0 y0 x1 y1 xa ya xb yb : Rat) : Bool :=
  match clTo x0 y0 x1 y1 xa ya xb yb 4 with
  | none => false
  | some p => !decide (p.2 < p.1)
def clK (V : Rat × Rat × Rat × Rat) (b : Bool) : Ex → St → Prop := FinK tbl Tryz.f25.results.toList [quD V.1 V.2.1 V.2.2.1 V.2.2.2, .v (.bool b), i64 0]
theorem clip_c1 {xa ya xb yb x0 y0 x1 y1 : Rat} {n : Nat} (ha : Bd n xa ∧ Bd n ya) (hb : Bd n xb ∧ Bd n yb) (h0 : Bd n x0 ∧ Bd n y0) (h1 : Bd n x1 ∧ Bd n y1) (hn : n < 1000000000)
    (hne : ¬ (xa = xb ∧ ya = yb)) (hx : x0 ≤ x1) (hy : y0 ≤ y1) {c : Code} (hc : Tryz.f25.body = some c) (K : Ex → St → Prop) :
    goL Tryz.prog tbl (fun t => t == 4 || t == 7 || t == 8 || t == 11 || t == 12 || t == 13 || t == 14) ((fl c).take 7) (startX [quD xa ya xb yb, quD x0 y0 x1 y1] 117)
      (lpX (fun st' => ∃ _ : Unit, True ∧ Weak st' (clSt xa ya xb yb x0 y0 x1 y1 0 0 1)) K) := by
  cases hc
  conv => whnf
  have e : sgE xa ya xb yb = 0 := by unfold sgE; rw [if_neg hne]
  refine call_data rfl rfl (scheck_c (.mk ha.1 (by omega)) (.mk ha.2 (by omega)) (.mk hb.1 (by omega)) (.mk hb.2 (by omega))) ?_
  conv => whnf
  rw [e]
  refine cond_ne (fun h => absurd rfl h) (fun _ => ?_)
  conv => whnf
  have cx : cmpI x0 x1 ≤ 0 := by rw [cmpI_eq]; unfold cmpQ; split <;> (try split) <;> first | omega | grind
  have cy : cmpI y0 y1 ≤ 0 := by rw [cmpI_eq]; unfold cmpQ; split <;> (try split) <;> first | omega | grind
  refine call_data rfl rfl (cmp_q (.mk h0.1 (by omega)) (.mk h1.1 (by omega))) ?_
  conv => whnf
  refine cond_df (by omega) ?_
  conv => whnf
  refine call_data rfl rfl (cmp_q (.mk h0.2 (by omega)) (.mk h1.2 (by omega))) ?_
  conv => whnf
  refine cond_df (by omega) ?_
  conv => whnf
  have h11 := of_r 1 (by omega)
  rw [Rat.intCast_one] at h11
  refine call_data rfl rfl h11 ?_
  conv => whnf
  refine call_data rfl rfl sides_c ?_
  conv => whnf
  refine ⟨(), trivial, ?_⟩
  refine weak_r ?_ ?_ <;> repeat' (first | exact trivial | exact rfl | refine And.intro ?_ ?_)
  · exact rneg_zero.symm
  · exact rnum_zero.symm
  · exact rden_zero.symm
set_option maxHeartbeats 4000000 in
theorem clip_c2 {xa ya xb yb x0 y0 x1 y1 : Rat} {n : Nat} (ha : Bd n xa ∧ Bd n ya) (hb : Bd n xb ∧ Bd n yb) (h0 : Bd n x0 ∧ Bd n y0) (h1 : Bd n x1 ∧ Bd n y1) (hn : n < 1000000000)
    {c : Code} (hc : Tryz.f25.body = some c) (V : Rat × Rat × Rat × Rat) (B : Bool) (hK : clTo x0 y0 x1 y1 xa ya xb yb 4 = none → V = (0, 0, 0, 0) ∧ B = false) :
    goL Tryz.prog tbl (fun t => t == 4 || t == 7 || t == 8 || t == 11 || t == 12 || t == 13 || t == 14) (((fl c).drop 7).take 1) (clSt xa ya xb yb x0 y0 x1 y1 0 0 1)
      (lpX (fun st' => ∃ p : Rat × Rat, (clTo x0 y0 x1 y1 xa ya xb yb 4 = some p ∧ Bd (6 * n + 4) p.1 ∧ Bd (6 * n + 4) p.2) ∧ Weak st' (clSt xa ya xb yb x0 y0 x1 y1 4 p.1 p.2)) (clK V B)) := by
  cases hc
  conv => whnf
  refine loop_intro (fun t => t == 4 || t == 7 || t == 8 || t == 11 || t == 12 || t == 13 || t == 14) (fun p : Nat × Rat × Rat => clSt xa ya xb yb x0 y0 x1 y1 p.1 p.2.1 p.2.2) (fun p => p.1 ≤ 4 ∧ clTo x0 y0 x1 y1 xa ya xb yb p.1 = some p.2 ∧ Bd (6 * n + 4) p.2.1 ∧ Bd (6 * n + 4) p.2.2) (fun p => 4 - p.1) (0, 0, 1) mixed tOk ⟨by omega, rfl, (bd_int 0 (by simp)).mono (n := 0) (by omega), (bd_int 1 (by simp)).mono (n := 0) (by omega)⟩ ?_ ?_
  conv => whnf
  · refine weak_r ?_ ?_ <;> repeat' (first | exact trivial | exact rfl | refine And.intro ?_ ?_)
  · rintro ⟨j, lo, hi⟩ ⟨hj, he, hblo, hbhi⟩
    simp only at hj he hblo hbhi
    show go _ _ _ _ (clSt xa ya xb yb x0 y0 x1 y1 j lo hi) _
    have hjj : j = 0 ∨ j = 1 ∨ j = 2 ∨ j = 3 ∨ j = 4 := by omega
    rcases hjj with rfl | rfl | rfl | rfl | rfl
    · conv => whnf
      refine cond_dt (by omega) ?_
      conv => whnf
      refine sd_d (by omega) ?_
      conv => whnf
      obtain ⟨f, hf⟩ : ∃ f, f = (xa-x0) := ⟨_, rfl⟩
      obtain ⟨t, ht⟩ : ∃ t, t = (xb-x0) := ⟨_, rfl⟩
      have hsf : sdQ x0 y0 x1 y1 xa ya 0 = f := hf.symm
      have hst : sdQ x0 y0 x1 y1 xb yb 0 = t := ht.symm
      have bf : Bd (2 * n + 1) f := by rw [hf]; first | exact (ha.1.sub h0.1).mono (by omega) | exact (h1.1.sub ha.1).mono (by omega) | exact (ha.2.sub h0.2).mono (by omega) | exact (h1.2.sub ha.2).mono (by omega)
      have bt : Bd (2 * n + 1) t := by rw [ht]; first | exact (hb.1.sub h0.1).mono (by omega) | exact (h1.1.sub hb.1).mono (by omega) | exact (hb.2.sub h0.2).mono (by omega) | exact (h1.2.sub hb.2).mono (by omega)
      have k1 : Fun Tryz.prog 156 [ptD xa ya, .p 0 (quD x0 y0 x1 y1).cells] [ratD f] := by rw [hf]; exact side1_c (.mk h0.1 (by omega)) (.mk ha.1 (by omega))
      have k2 : Fun Tryz.prog 156 [ptD xb yb, .p 0 (quD x0 y0 x1 y1).cells] [ratD t] := by rw [ht]; exact side1_c (.mk h0.1 (by omega)) (.mk hb.1 (by omega))
      refine callv_data k1 ?_
      conv => whnf
      refine callv_data k2 ?_
      conv => whnf
      refine safe_intro (by kernel_rfl) ?_
      conv => whnf
      refine call_data rfl rfl (sub_q (.mk bt (by omega)) (.mk bf (by omega))) ?_
      conv => whnf
      refine callv_data (neg_q (.mk bf (by omega))) ?_
      conv => whnf
      refine callv_data (quo_q (.mk bf.neg (by omega)) (.mk (bt.sub bf) (by omega))) ?_
      conv => whnf
      refine safe_intro (by kernel_rfl) ?_
      conv => whnf
      have hE : eQ (t - f) = if t - f = 0 then 10 else 0 := by unfold eQ; rfl
      have hstep : clTo x0 y0 x1 y1 xa ya xb yb (0 + 1) = clStep f t (lo, hi) := by
        show (clTo x0 y0 x1 y1 xa ya xb yb 0).bind (clStep (sdQ x0 y0 x1 y1 xa ya 0) (sdQ x0 y0 x1 y1 xb yb 0)) = _
        rw [he, hsf, hst]; rfl
      refine cond_ne (fun c1 => ?_) (fun c1 => ?_)
      · have d1 : t - f = 0 := by
          by_cases h : t - f = 0
          · exact h
          · rw [hE, if_neg h] at c1; exact absurd rfl c1
        conv => whnf
        refine call_data rfl rfl (sign_q (.mk bf (by omega))) ?_
        conv => whnf
        refine cond_d (fun c2 => ?_) (fun c2 => ?_)
        · have d2 : f < 0 := by rw [sgnI_eq] at c2; exact sgnQ_neg.1 c2
          have hnn : clTo x0 y0 x1 y1 xa ya xb yb (0 + 1) = none := by rw [hstep]; unfold clStep; rw [if_pos d1, if_pos d2]
          obtain ⟨eV, eB⟩ := hK (clTo_none hnn (3 - 0))
          conv => whnf
          refine ⟨?_, ?_, ?_, trivial⟩
          · rw [eV]
            conv => whnf
            rw [rneg_zero, rnum_zero, rden_zero]
            exact ⟨rfl, rfl, rfl, rfl, rfl, rfl, rfl, rfl, rfl, rfl, rfl, rfl, trivial⟩
          · rw [eB]
            conv => whnf
          · conv => whnf
        · have d2 : ¬ f < 0 := by rw [sgnI_eq] at c2; exact fun h => c2 (sgnQ_neg.2 h)
          have hs : clTo x0 y0 x1 y1 xa ya xb yb (0 + 1) = some (lo, hi) := by rw [hstep]; unfold clStep; rw [if_pos d1, if_neg d2]
          conv => whnf
          refine cond_ne (fun _ => ?_) (fun c => absurd c c1)
          conv => whnf
          refine sd_d (by omega) ?_
          conv => whnf
          refine ⟨(0 + 1, lo, hi), ⟨by show 0 + 1 ≤ 4; omega, hs, hblo, hbhi⟩, by show 4 - (0 + 1) < 4 - 0; omega, ?_⟩
          refine weak_dead 3 rfl (weak_dead 4 rfl (weak_dead 5 rfl (weak_dead 6 rfl ?_)))
          refine weak_r ?_ ?_ <;> repeat' (first | exact trivial | exact rfl | refine And.intro ?_ ?_)
      · have d1 : t - f ≠ 0 := by
          intro h; rw [hE, if_pos h] at c1; exact absurd c1 (by decide)
        have bt2 : Bd (6 * n + 4) (-f / (t - f)) := (bf.neg.div (bt.sub bf)).mono (by omega)
        conv => whnf
        refine cond_ne (fun c => absurd c1 c) (fun _ => ?_)
        conv => whnf
        refine call_data rfl rfl (sign_q (.mk (bt.sub bf) (by omega))) ?_
        conv => whnf
        refine cond_d (fun c4 => ?_) (fun c4 => ?_)
        · have d4 : 0 < t - f := by rw [sgnI_eq] at c4; exact sgnQ_pos.1 c4
          conv => whnf
          refine call_data rfl rfl (cmp_q (.mk bt2 (by omega)) (.mk hblo (by omega))) ?_
          conv => whnf
          refine cond_d (fun c5 => ?_) (fun c5 => ?_)
          · have d5 : lo < -f / (t - f) := by
              rw [cmpI_eq] at c5; unfold cmpQ at c5
              split at c5
              · omega
              · split at c5
                · assumption
                · omega
            have hs : clTo x0 y0 x1 y1 xa ya xb yb (0 + 1) = some (-f / (t - f), hi) := by rw [hstep]; unfold clStep; rw [if_neg d1, if_pos ⟨d4, d5⟩]
            conv => whnf
            refine sd_d (by omega) ?_
            conv => whnf
            refine ⟨(0 + 1, -f / (t - f), hi), ⟨by show 0 + 1 ≤ 4; omega, hs, bt2, hbhi⟩, by show 4 - (0 + 1) < 4 - 0; omega, ?_⟩
            refine weak_dead 3 rfl (weak_dead 4 rfl (weak_dead 5 rfl (weak_dead 6 rfl ?_)))
            refine weak_r ?_ ?_ <;> repeat' (first | exact trivial | exact rfl | refine And.intro ?_ ?_)
          · have hn2 : ¬ (0 < t - f ∧ lo < -f / (t - f)) := fun h => by
              apply c5; rw [cmpI_eq]; unfold cmpQ
              rw [if_neg (by have := h.2; grind), if_pos h.2]; omega
            have d2 : ¬ (0 < t - f ∧ lo < -f / (t - f)) := hn2
            conv => whnf
            refine call_data rfl rfl (sign_q (.mk (bt.sub bf) (by omega))) ?_
            conv => whnf
            refine cond_d (fun c4 => ?_) (fun c4 => ?_)
            · have d4 : t - f < 0 := by rw [sgnI_eq] at c4; exact sgnQ_neg.1 c4
              conv => whnf
              refine call_data rfl rfl (cmp_q (.mk bt2 (by omega)) (.mk hbhi (by omega))) ?_
              conv => whnf
              refine cond_d (fun c5 => ?_) (fun c5 => ?_)
              · have d5 : -f / (t - f) < hi := by rw [cmpI_eq] at c5; unfold cmpQ at c5; split at c5 <;> (try split at c5) <;> first | assumption | omega
                have hs : clTo x0 y0 x1 y1 xa ya xb yb (0 + 1) = some (lo, -f / (t - f)) := by rw [hstep]; unfold clStep; rw [if_neg d1, if_neg d2, if_pos ⟨d4, d5⟩]
                conv => whnf
                refine sd_d (by omega) ?_
                conv => whnf
                refine ⟨(0 + 1, lo, -f / (t - f)), ⟨by show 0 + 1 ≤ 4; omega, hs, hblo, bt2⟩, by show 4 - (0 + 1) < 4 - 0; omega, ?_⟩
                refine weak_dead 3 rfl (weak_dead 4 rfl (weak_dead 5 rfl (weak_dead 6 rfl ?_)))
                refine weak_r ?_ ?_ <;> repeat' (first | exact trivial | exact rfl | refine And.intro ?_ ?_)
              · have d5 : ¬ -f / (t - f) < hi := by
                  intro h; apply c5; rw [cmpI_eq]; unfold cmpQ; rw [if_pos h]; omega
                have hs : clTo x0 y0 x1 y1 xa ya xb yb (0 + 1) = some (lo, hi) := by rw [hstep]; unfold clStep; rw [if_neg d1, if_neg d2, if_neg (fun h => d5 h.2)]
                conv => whnf
                refine sd_d (by omega) ?_
                conv => whnf
                refine ⟨(0 + 1, lo, hi), ⟨by show 0 + 1 ≤ 4; omega, hs, hblo, hbhi⟩, by show 4 - (0 + 1) < 4 - 0; omega, ?_⟩
                refine weak_dead 3 rfl (weak_dead 4 rfl (weak_dead 5 rfl (weak_dead 6 rfl ?_)))
                refine weak_r ?_ ?_ <;> repeat' (first | exact trivial | exact rfl | refine And.intro ?_ ?_)
            · have d4 : ¬ t - f < 0 := by rw [sgnI_eq] at c4; exact fun h => c4 (sgnQ_neg.2 h)
              have hs : clTo x0 y0 x1 y1 xa ya xb yb (0 + 1) = some (lo, hi) := by rw [hstep]; unfold clStep; rw [if_neg d1, if_neg d2, if_neg (fun h => d4 h.1)]
              conv => whnf
              refine sd_d (by omega) ?_
              conv => whnf
              refine ⟨(0 + 1, lo, hi), ⟨by show 0 + 1 ≤ 4; omega, hs, hblo, hbhi⟩, by show 4 - (0 + 1) < 4 - 0; omega, ?_⟩
              refine weak_dead 3 rfl (weak_dead 4 rfl (weak_dead 5 rfl (weak_dead 6 rfl ?_)))
              refine weak_r ?_ ?_ <;> repeat' (first | exact trivial | exact rfl | refine And.intro ?_ ?_)
        · have hn2 : ¬ (0 < t - f ∧ lo < -f / (t - f)) := fun h => by
            apply c4; rw [sgnI_eq]; exact sgnQ_pos.2 h.1
          have d2 : ¬ (0 < t - f ∧ lo < -f / (t - f)) := hn2
          conv => whnf
          refine call_data rfl rfl (sign_q (.mk (bt.sub bf) (by omega))) ?_
          conv => whnf
          refine cond_d (fun c4 => ?_) (fun c4 => ?_)
          · have d4 : t - f < 0 := by rw [sgnI_eq] at c4; exact sgnQ_neg.1 c4
            conv => whnf
            refine call_data rfl rfl (cmp_q (.mk bt2 (by omega)) (.mk hbhi (by omega))) ?_
            conv => whnf
            refine cond_d (fun c5 => ?_) (fun c5 => ?_)
            · have d5 : -f / (t - f) < hi := by rw [cmpI_eq] at c5; unfold cmpQ at c5; split at c5 <;> (try split at c5) <;> first | assumption | omega
              have hs : clTo x0 y0 x1 y1 xa ya xb yb (0 + 1) = some (lo, -f / (t - f)) := by rw [hstep]; unfold clStep; rw [if_neg d1, if_neg d2, if_pos ⟨d4, d5⟩]
              conv => whnf
              refine sd_d (by omega) ?_
              conv => whnf
              refine ⟨(0 + 1, lo, -f / (t - f)), ⟨by show 0 + 1 ≤ 4; omega, hs, hblo, bt2⟩, by show 4 - (0 + 1) < 4 - 0; omega, ?_⟩
              refine weak_dead 3 rfl (weak_dead 4 rfl (weak_dead 5 rfl (weak_dead 6 rfl ?_)))
              refine weak_r ?_ ?_ <;> repeat' (first | exact trivial | exact rfl | refine And.intro ?_ ?_)
            · have d5 : ¬ -f / (t - f) < hi := by
                intro h; apply c5; rw [cmpI_eq]; unfold cmpQ; rw [if_pos h]; omega
              have hs : clTo x0 y0 x1 y1 xa ya xb yb (0 + 1) = some (lo, hi) := by rw [hstep]; unfold clStep; rw [if_neg d1, if_neg d2, if_neg (fun h => d5 h.2)]
              conv => whnf
              refine sd_d (by omega) ?_
              conv => whnf
              refine ⟨(0 + 1, lo, hi), ⟨by show 0 + 1 ≤ 4; omega, hs, hblo, hbhi⟩, by show 4 - (0 + 1) < 4 - 0; omega, ?_⟩
              refine weak_dead 3 rfl (weak_dead 4 rfl (weak_dead 5 rfl (weak_dead 6 rfl ?_)))
              refine weak_r ?_ ?_ <;> repeat' (first | exact trivial | exact rfl | refine And.intro ?_ ?_)
          · have d4 : ¬ t - f < 0 := by rw [sgnI_eq] at c4; exact fun h => c4 (sgnQ_neg.2 h)
            have hs : clTo x0 y0 x1 y1 xa ya xb yb (0 + 1) = some (lo, hi) := by rw [hstep]; unfold clStep; rw [if_neg d1, if_neg d2, if_neg (fun h => d4 h.1)]
            conv => whnf
            refine sd_d (by omega) ?_
            conv => whnf
            refine ⟨(0 + 1, lo, hi), ⟨by show 0 + 1 ≤ 4; omega, hs, hblo, hbhi⟩, by show 4 - (0 + 1) < 4 - 0; omega, ?_⟩
            refine weak_dead 3 rfl (weak_dead 4 rfl (weak_dead 5 rfl (weak_dead 6 rfl ?_)))
            refine weak_r ?_ ?_ <;> repeat' (first | exact trivial | exact rfl | refine And.intro ?_ ?_)
    · conv => whnf
      refine cond_dt (by omega) ?_
      conv => whnf
      refine sd_d (by omega) ?_
      conv => whnf
      obtain ⟨f, hf⟩ : ∃ f, f = (x1-xa) := ⟨_, rfl⟩
      obtain ⟨t, ht⟩ : ∃ t, t = (x1-xb) := ⟨_, rfl⟩
      have hsf : sdQ x0 y0 x1 y1 xa ya 1 = f := hf.symm
      have hst : sdQ x0 y0 x1 y1 xb yb 1 = t := ht.symm
      have bf : Bd (2 * n + 1) f := by rw [hf]; first | exact (ha.1.sub h0.1).mono (by omega) | exact (h1.1.sub ha.1).mono (by omega) | exact (ha.2.sub h0.2).mono (by omega) | exact (h1.2.sub ha.2).mono (by omega)
      have bt : Bd (2 * n + 1) t := by rw [ht]; first | exact (hb.1.sub h0.1).mono (by omega) | exact (h1.1.sub hb.1).mono (by omega) | exact (hb.2.sub h0.2).mono (by omega) | exact (h1.2.sub hb.2).mono (by omega)
      have k1 : Fun Tryz.prog 157 [ptD xa ya, .p 0 (quD x0 y0 x1 y1).cells] [ratD f] := by rw [hf]; exact side2_c (.mk h1.1 (by omega)) (.mk ha.1 (by omega))
      have k2 : Fun Tryz.prog 157 [ptD xb yb, .p 0 (quD x0 y0 x1 y1).cells] [ratD t] := by rw [ht]; exact side2_c (.mk h1.1 (by omega)) (.mk hb.1 (by omega))
      refine callv_data k1 ?_
      conv => whnf
      refine callv_data k2 ?_
      conv => whnf
      refine safe_intro (by kernel_rfl) ?_
      conv => whnf
      refine call_data rfl rfl (sub_q (.mk bt (by omega)) (.mk bf (by omega))) ?_
      conv => whnf
      refine callv_data (neg_q (.mk bf (by omega))) ?_
      conv => whnf
      refine callv_data (quo_q (.mk bf.neg (by omega)) (.mk (bt.sub bf) (by omega))) ?_
      conv => whnf
      refine safe_intro (by kernel_rfl) ?_
      conv => whnf
      have hE : eQ (t - f) = if t - f = 0 then 10 else 0 := by unfold eQ; rfl
      have hstep : clTo x0 y0 x1 y1 xa ya xb yb (1 + 1) = clStep f t (lo, hi) := by
        show (clTo x0 y0 x1 y1 xa ya xb yb 1).bind (clStep (sdQ x0 y0 x1 y1 xa ya 1) (sdQ x0 y0 x1 y1 xb yb 1)) = _
        rw [he, hsf, hst]; rfl
      refine cond_ne (fun c1 => ?_) (fun c1 => ?_)
      · have d1 : t - f = 0 := by
          by_cases h : t - f = 0
          · exact h
          · rw [hE, if_neg h] at c1; exact absurd rfl c1
        conv => whnf
        refine call_data rfl rfl (sign_q (.mk bf (by omega))) ?_
        conv => whnf
        refine cond_d (fun c2 => ?_) (fun c2 => ?_)
        · have d2 : f < 0 := by rw [sgnI_eq] at c2; exact sgnQ_neg.1 c2
          have hnn : clTo x0 y0 x1 y1 xa ya xb yb (1 + 1) = none := by rw [hstep]; unfold clStep; rw [if_pos d1, if_pos d2]
          obtain ⟨eV, eB⟩ := hK (clTo_none hnn (3 - 1))
          conv => whnf
          refine ⟨?_, ?_, ?_, trivial⟩
          · rw [eV]
            conv => whnf
            rw [rneg_zero, rnum_zero, rden_zero]
            exact ⟨rfl, rfl, rfl, rfl, rfl, rfl, rfl, rfl, rfl, rfl, rfl, rfl, trivial⟩
          · rw [eB]
            conv => whnf
          · conv => whnf
        · have d2 : ¬ f < 0 := by rw [sgnI_eq] at c2; exact fun h => c2 (sgnQ_neg.2 h)
          have hs : clTo x0 y0 x1 y1 xa ya xb yb (1 + 1) = some (lo, hi) := by rw [hstep]; unfold clStep; rw [if_pos d1, if_neg d2]
          conv => whnf
          refine cond_ne (fun _ => ?_) (fun c => absurd c c1)
          conv => whnf
          refine sd_d (by omega) ?_
          conv => whnf
          refine ⟨(1 + 1, lo, hi), ⟨by show 1 + 1 ≤ 4; omega, hs, hblo, hbhi⟩, by show 4 - (1 + 1) < 4 - 1; omega, ?_⟩
          refine weak_dead 3 rfl (weak_dead 4 rfl (weak_dead 5 rfl (weak_dead 6 rfl ?_)))
          refine weak_r ?_ ?_ <;> repeat' (first | exact trivial | exact rfl | refine And.intro ?_ ?_)
      · have d1 : t - f ≠ 0 := by
          intro h; rw [hE, if_pos h] at c1; exact absurd c1 (by decide)
        have bt2 : Bd (6 * n + 4) (-f / (t - f)) := (bf.neg.div (bt.sub bf)).mono (by omega)
        conv => whnf
        refine cond_ne (fun c => absurd c1 c) (fun _ => ?_)
        conv => whnf
        refine call_data rfl rfl (sign_q (.mk (bt.sub bf) (by omega))) ?_
        conv => whnf
        refine cond_d (fun c4 => ?_) (fun c4 => ?_)
        · have d4 : 0 < t - f := by rw [sgnI_eq] at c4; exact sgnQ_pos.1 c4
          conv => whnf
          refine call_data rfl rfl (cmp_q (.mk bt2 (by omega)) (.mk hblo (by omega))) ?_
          conv => whnf
          refine cond_d (fun c5 => ?_) (fun c5 => ?_)
          · have d5 : lo < -f / (t - f) := by
              rw [cmpI_eq] at c5; unfold cmpQ at c5
              split at c5
              · omega
              · split at c5
                · assumption
                · omega
            have hs : clTo x0 y0 x1 y1 xa ya xb yb (1 + 1) = some (-f / (t - f), hi) := by rw [hstep]; unfold clStep; rw [if_neg d1, if_pos ⟨d4, d5⟩]
            conv => whnf
            refine sd_d (by omega) ?_
            conv => whnf
            refine ⟨(1 + 1, -f / (t - f), hi), ⟨by show 1 + 1 ≤ 4; omega, hs, bt2, hbhi⟩, by show 4 - (1 + 1) < 4 - 1; omega, ?_⟩
            refine weak_dead 3 rfl (weak_dead 4 rfl (weak_dead 5 rfl (weak_dead 6 rfl ?_)))
            refine weak_r ?_ ?_ <;> repeat' (first | exact trivial | exact rfl | refine And.intro ?_ ?_)
          · have hn2 : ¬ (0 < t - f ∧ lo < -f / (t - f)) := fun h => by
              apply c5; rw [cmpI_eq]; unfold cmpQ
              rw [if_neg (by have := h.2; grind), if_pos h.2]; omega
            have d2 : ¬ (0 < t - f ∧ lo < -f / (t - f)) := hn2
            conv => whnf
            refine call_data rfl rfl (sign_q (.mk (bt.sub bf) (by omega))) ?_
            conv => whnf
            refine cond_d (fun c4 => ?_) (fun c4 => ?_)
            · have d4 : t - f < 0 := by rw [sgnI_eq] at c4; exact sgnQ_neg.1 c4
              conv => whnf
              refine call_data rfl rfl (cmp_q (.mk bt2 (by omega)) (.mk hbhi (by omega))) ?_
              conv => whnf
              refine cond_d (fun c5 => ?_) (fun c5 => ?_)
              · have d5 : -f / (t - f) < hi := by rw [cmpI_eq] at c5; unfold cmpQ at c5; split at c5 <;> (try split at c5) <;> first | assumption | omega
                have hs : clTo x0 y0 x1 y1 xa ya xb yb (1 + 1) = some (lo, -f / (t - f)) := by rw [hstep]; unfold clStep; rw [if_neg d1, if_neg d2, if_pos ⟨d4, d5⟩]
                conv => whnf
                refine sd_d (by omega) ?_
                conv => whnf
                refine ⟨(1 + 1, lo, -f / (t - f)), ⟨by show 1 + 1 ≤ 4; omega, hs, hblo, bt2⟩, by show 4 - (1 + 1) < 4 - 1; omega, ?_⟩
                refine weak_dead 3 rfl (weak_dead 4 rfl (weak_dead 5 rfl (weak_dead 6 rfl ?_)))
                refine weak_r ?_ ?_ <;> repeat' (first | exact trivial | exact rfl | refine And.intro ?_ ?_)
              · have d5 : ¬ -f / (t - f) < hi := by
                  intro h; apply c5; rw [cmpI_eq]; unfold cmpQ; rw [if_pos h]; omega
                have hs : clTo x0 y0 x1 y1 xa ya xb yb (1 + 1) = some (lo, hi) := by rw [hstep]; unfold clStep; rw [if_neg d1, if_neg d2, if_neg (fun h => d5 h.2)]
                conv => whnf
                refine sd_d (by omega) ?_
                conv => whnf
                refine ⟨(1 + 1, lo, hi), ⟨by show 1 + 1 ≤ 4; omega, hs, hblo, hbhi⟩, by show 4 - (1 + 1) < 4 - 1; omega, ?_⟩
                refine weak_dead 3 rfl (weak_dead 4 rfl (weak_dead 5 rfl (weak_dead 6 rfl ?_)))
                refine weak_r ?_ ?_ <;> repeat' (first | exact trivial | exact rfl | refine And.intro ?_ ?_)
            · have d4 : ¬ t - f < 0 := by rw [sgnI_eq] at c4; exact fun h => c4 (sgnQ_neg.2 h)
              have hs : clTo x0 y0 x1 y1 xa ya xb yb (1 + 1) = some (lo, hi) := by rw [hstep]; unfold clStep; rw [if_neg d1, if_neg d2, if_neg (fun h => d4 h.1)]
              conv => whnf
              refine sd_d (by omega) ?_
              conv => whnf
              refine ⟨(1 + 1, lo, hi), ⟨by show 1 + 1 ≤ 4; omega, hs, hblo, hbhi⟩, by show 4 - (1 + 1) < 4 - 1; omega, ?_⟩
              refine weak_dead 3 rfl (weak_dead 4 rfl (weak_dead 5 rfl (weak_dead 6 rfl ?_)))
              refine weak_r ?_ ?_ <;> repeat' (first | exact trivial | exact rfl | refine And.intro ?_ ?_)
        · have hn2 : ¬ (0 < t - f ∧ lo < -f / (t - f)) := fun h => by
            apply c4; rw [sgnI_eq]; exact sgnQ_pos.2 h.1
          have d2 : ¬ (0 < t - f ∧ lo < -f / (t - f)) := hn2
          conv => whnf
          refine call_data rfl rfl (sign_q (.mk (bt.sub bf) (by omega))) ?_
          conv => whnf
          refine cond_d (fun c4 => ?_) (fun c4 => ?_)
          · have d4 : t - f < 0 := by rw [sgnI_eq] at c4; exact sgnQ_neg.1 c4
            conv => whnf
            refine call_data rfl rfl (cmp_q (.mk bt2 (by omega)) (.mk hbhi (by omega))) ?_
            conv => whnf
            refine cond_d (fun c5 => ?_) (fun c5 => ?_)
            · have d5 : -f / (t - f) < hi := by rw [cmpI_eq] at c5; unfold cmpQ at c5; split at c5 <;> (try split at c5) <;> first | assumption | omega
              have hs : clTo x0 y0 x1 y1 xa ya xb yb (1 + 1) = some (lo, -f / (t - f)) := by rw [hstep]; unfold clStep; rw [if_neg d1, if_neg d2, if_pos ⟨d4, d5⟩]
              conv => whnf
              refine sd_d (by omega) ?_
              conv => whnf
              refine ⟨(1 + 1, lo, -f / (t - f)), ⟨by show 1 + 1 ≤ 4; omega, hs, hblo, bt2⟩, by show 4 - (1 + 1) < 4 - 1; omega, ?_⟩
              refine weak_dead 3 rfl (weak_dead 4 rfl (weak_dead 5 rfl (weak_dead 6 rfl ?_)))
              refine weak_r ?_ ?_ <;> repeat' (first | exact trivial | exact rfl | refine And.intro ?_ ?_)
            · have d5 : ¬ -f / (t - f) < hi := by
                intro h; apply c5; rw [cmpI_eq]; unfold cmpQ; rw [if_pos h]; omega
              have hs : clTo x0 y0 x1 y1 xa ya xb yb (1 + 1) = some (lo, hi) := by rw [hstep]; unfold clStep; rw [if_neg d1, if_neg d2, if_neg (fun h => d5 h.2)]
              conv => whnf
              refine sd_d (by omega) ?_
              conv => whnf
              refine ⟨(1 + 1, lo, hi), ⟨by show 1 + 1 ≤ 4; omega, hs, hblo, hbhi⟩, by show 4 - (1 + 1) < 4 - 1; omega, ?_⟩
              refine weak_dead 3 rfl (weak_dead 4 rfl (weak_dead 5 rfl (weak_dead 6 rfl ?_)))
              refine weak_r ?_ ?_ <;> repeat' (first | exact trivial | exact rfl | refine And.intro ?_ ?_)
          · have d4 : ¬ t - f < 0 := by rw [sgnI_eq] at c4; exact fun h => c4 (sgnQ_neg.2 h)
            have hs : clTo x0 y0 x1 y1 xa ya xb yb (1 + 1) = some (lo, hi) := by rw [hstep]; unfold clStep; rw [if_neg d1, if_neg d2, if_neg (fun h => d4 h.1)]
            conv => whnf
            refine sd_d (by omega) ?_
            conv => whnf
            refine ⟨(1 + 1, lo, hi), ⟨by show 1 + 1 ≤ 4; omega, hs, hblo, hbhi⟩, by show 4 - (1 + 1) < 4 - 1; omega, ?_⟩
            refine weak_dead 3 rfl (weak_dead 4 rfl (weak_dead 5 rfl (weak_dead 6 rfl ?_)))
            refine weak_r ?_ ?_ <;> repeat' (first | exact trivial | exact rfl | refine And.intro ?_ ?_)
    · conv => whnf
      refine cond_dt (by omega) ?_
      conv => whnf
      refine sd_d (by omega) ?_
      conv => whnf
      obtain ⟨f, hf⟩ : ∃ f, f = (ya-y0) := ⟨_, rfl⟩
      obtain ⟨t, ht⟩ : ∃ t, t = (yb-y0) := ⟨_, rfl⟩
      have hsf : sdQ x0 y0 x1 y1 xa ya 2 = f := hf.symm
      have hst : sdQ x0 y0 x1 y1 xb yb 2 = t := ht.symm
      have bf : Bd (2 * n + 1) f := by rw [hf]; first | exact (ha.1.sub h0.1).mono (by omega) | exact (h1.1.sub ha.1).mono (by omega) | exact (ha.2.sub h0.2).mono (by omega) | exact (h1.2.sub ha.2).mono (by omega)
      have bt : Bd (2 * n + 1) t := by rw [ht]; first | exact (hb.1.sub h0.1).mono (by omega) | exact (h1.1.sub hb.1).mono (by omega) | exact (hb.2.sub h0.2).mono (by omega) | exact (h1.2.sub hb.2).mono (by omega)
      have k1 : Fun Tryz.prog 158 [ptD xa ya, .p 0 (quD x0 y0 x1 y1).cells] [ratD f] := by rw [hf]; exact side3_c (.mk h0.2 (by omega)) (.mk ha.2 (by omega))
      have k2 : Fun Tryz.prog 158 [ptD xb yb, .p 0 (quD x0 y0 x1 y1).cells] [ratD t] := by rw [ht]; exact side3_c (.mk h0.2 (by omega)) (.mk hb.2 (by omega))
      refine callv_data k1 ?_
      conv => whnf
      refine callv_data k2 ?_
      conv => whnf
      refine safe_intro (by kernel_rfl) ?_
      conv => whnf
      refine call_data rfl rfl (sub_q (.mk bt (by omega)) (.mk bf (by omega))) ?_
      conv => whnf
      refine callv_data (neg_q (.mk bf (by omega))) ?_
      conv => whnf
      refine callv_data (quo_q (.mk bf.neg (by omega)) (.mk (bt.sub bf) (by omega))) ?_
      conv => whnf
      refine safe_intro (by kernel_rfl) ?_
      conv => whnf
      have hE : eQ (t - f) = if t - f = 0 then 10 else 0 := by unfold eQ; rfl
      have hstep : clTo x0 y0 x1 y1 xa ya xb yb (2 + 1) = clStep f t (lo, hi) := by
        show (clTo x0 y0 x1 y1 xa ya xb yb 2).bind (clStep (sdQ x0 y0 x1 y1 xa ya 2) (sdQ x0 y0 x1 y1 xb yb 2)) = _
        rw [he, hsf, hst]; rfl
      refine cond_ne (fun c1 => ?_) (fun c1 => ?_)
      · have d1 : t - f = 0 := by
          by_cases h : t - f = 0
          · exact h
          · rw [hE, if_neg h] at c1; exact absurd rfl c1
        conv => whnf
        refine call_data rfl rfl (sign_q (.mk bf (by omega))) ?_
        conv => whnf
        refine cond_d (fun c2 => ?_) (fun c2 => ?_)
        · have d2 : f < 0 := by rw [sgnI_eq] at c2; exact sgnQ_neg.1 c2
          have hnn : clTo x0 y0 x1 y1 xa ya xb yb (2 + 1) = none := by rw [hstep]; unfold clStep; rw [if_pos d1, if_pos d2]
          obtain ⟨eV, eB⟩ := hK (clTo_none hnn (3 - 2))
          conv => whnf
          refine ⟨?_, ?_, ?_, trivial⟩
          · rw [eV]
            conv => whnf
            rw [rneg_zero, rnum_zero, rden_zero]
            exact ⟨rfl, rfl, rfl, rfl, rfl, rfl, rfl, rfl, rfl, rfl, rfl, rfl, trivial⟩
          · rw [eB]
            conv => whnf
          · conv => whnf
        · have d2 : ¬ f < 0 := by rw [sgnI_eq] at c2; exact fun h => c2 (sgnQ_neg.2 h)
          have hs : clTo x0 y0 x1 y1 xa ya xb yb (2 + 1) = some (lo, hi) := by rw [hstep]; unfold clStep; rw [if_pos d1, if_neg d2]
          conv => whnf
          refine cond_ne (fun _ => ?_) (fun c => absurd c c1)
          conv => whnf
          refine sd_d (by omega) ?_
          conv => whnf
          refine ⟨(2 + 1, lo, hi), ⟨by show 2 + 1 ≤ 4; omega, hs, hblo, hbhi⟩, by show 4 - (2 + 1) < 4 - 2; omega, ?_⟩
          refine weak_dead 3 rfl (weak_dead 4 rfl (weak_dead 5 rfl (weak_dead 6 rfl ?_)))
          refine weak_r ?_ ?_ <;> repeat' (first | exact trivial | exact rfl | refine And.intro ?_ ?_)
      · have d1 : t - f ≠ 0 := by
          intro h; rw [hE, if_pos h] at c1; exact absurd c1 (by decide)
        have bt2 : Bd (6 * n + 4) (-f / (t - f)) := (bf.neg.div (bt.sub bf)).mono (by omega)
        conv => whnf
        refine cond_ne (fun c => absurd c1 c) (fun _ => ?_)
        conv => whnf
        refine call_data rfl rfl (sign_q (.mk (bt.sub bf) (by omega))) ?_
        conv => whnf
        refine cond_d (fun c4 => ?_) (fun c4 => ?_)
        · have d4 : 0 < t - f := by rw [sgnI_eq] at c4; exact sgnQ_pos.1 c4
          conv => whnf
          refine call_data rfl rfl (cmp_q (.mk bt2 (by omega)) (.mk hblo (by omega))) ?_
          conv => whnf
          refine cond_d (fun c5 => ?_) (fun c5 => ?_)
          · have d5 : lo < -f / (t - f) := by
              rw [cmpI_eq] at c5; unfold cmpQ at c5
              split at c5
              · omega
              · split at c5
                · assumption
                · omega
            have hs : clTo x0 y0 x1 y1 xa ya xb yb (2 + 1) = some (-f / (t - f), hi) := by rw [hstep]; unfold clStep; rw [if_neg d1, if_pos ⟨d4, d5⟩]
            conv => whnf
            refine sd_d (by omega) ?_
            conv => whnf
            refine ⟨(2 + 1, -f / (t - f), hi), ⟨by show 2 + 1 ≤ 4; omega, hs, bt2, hbhi⟩, by show 4 - (2 + 1) < 4 - 2; omega, ?_⟩
            refine weak_dead 3 rfl (weak_dead 4 rfl (weak_dead 5 rfl (weak_dead 6 rfl ?_)))
            refine weak_r ?_ ?_ <;> repeat' (first | exact trivial | exact rfl | refine And.intro ?_ ?_)
          · have hn2 : ¬ (0 < t - f ∧ lo < -f / (t - f)) := fun h => by
              apply c5; rw [cmpI_eq]; unfold cmpQ
              rw [if_neg (by have := h.2; grind), if_pos h.2]; omega
            have d2 : ¬ (0 < t - f ∧ lo < -f / (t - f)) := hn2
            conv => whnf
            refine call_data rfl rfl (sign_q (.mk (bt.sub bf) (by omega))) ?_
            conv => whnf
            refine cond_d (fun c4 => ?_) (fun c4 => ?_)
            · have d4 : t - f < 0 := by rw [sgnI_eq] at c4; exact sgnQ_neg.1 c4
              conv => whnf
              refine call_data rfl rfl (cmp_q (.mk bt2 (by omega)) (.mk hbhi (by omega))) ?_
              conv => whnf
              refine cond_d (fun c5 => ?_) (fun c5 => ?_)
              · have d5 : -f / (t - f) < hi := by rw [cmpI_eq] at c5; unfold cmpQ at c5; split at c5 <;> (try split at c5) <;> first | assumption | omega
                have hs : clTo x0 y0 x1 y1 xa ya xb yb (2 + 1) = some (lo, -f / (t - f)) := by rw [hstep]; unfold clStep; rw [if_neg d1, if_neg d2, if_pos ⟨d4, d5⟩]
                conv => whnf
                refine sd_d (by omega) ?_
                conv => whnf
                refine ⟨(2 + 1, lo, -f / (t - f)), ⟨by show 2 + 1 ≤ 4; omega, hs, hblo, bt2⟩, by show 4 - (2 + 1) < 4 - 2; omega, ?_⟩
                refine weak_dead 3 rfl (weak_dead 4 rfl (weak_dead 5 rfl (weak_dead 6 rfl ?_)))
                refine weak_r ?_ ?_ <;> repeat' (first | exact trivial | exact rfl | refine And.intro ?_ ?_)
              · have d5 : ¬ -f / (t - f) < hi := by
                  intro h; apply c5; rw [cmpI_eq]; unfold cmpQ; rw [if_pos h]; omega
                have hs : clTo x0 y0 x1 y1 xa ya xb yb (2 + 1) = some (lo, hi) := by rw [hstep]; unfold clStep; rw [if_neg d1, if_neg d2, if_neg (fun h => d5 h.2)]
                conv => whnf
                refine sd_d (by omega) ?_
                conv => whnf
                refine ⟨(2 + 1, lo, hi), ⟨by show 2 + 1 ≤ 4; omega, hs, hblo, hbhi⟩, by show 4 - (2 + 1) < 4 - 2; omega, ?_⟩
                refine weak_dead 3 rfl (weak_dead 4 rfl (weak_dead 5 rfl (weak_dead 6 rfl ?_)))
                refine weak_r ?_ ?_ <;> repeat' (first | exact trivial | exact rfl | refine And.intro ?_ ?_)
            · have d4 : ¬ t - f < 0 := by rw [sgnI_eq] at c4; exact fun h => c4 (sgnQ_neg.2 h)
              have hs : clTo x0 y0 x1 y1 xa ya xb yb (2 + 1) = some (lo, hi) := by rw [hstep]; unfold clStep; rw [if_neg d1, if_neg d2, if_neg (fun h => d4 h.1)]
              conv => whnf
              refine sd_d (by omega) ?_
              conv => whnf
              refine ⟨(2 + 1, lo, hi), ⟨by show 2 + 1 ≤ 4; omega, hs, hblo, hbhi⟩, by show 4 - (2 + 1) < 4 - 2; omega, ?_⟩
              refine weak_dead 3 rfl (weak_dead 4 rfl (weak_dead 5 rfl (weak_dead 6 rfl ?_)))
              refine weak_r ?_ ?_ <;> repeat' (first | exact trivial | exact rfl | refine And.intro ?_ ?_)
        · have hn2 : ¬ (0 < t - f ∧ lo < -f / (t - f)) := fun h => by
            apply c4; rw [sgnI_eq]; exact sgnQ_pos.2 h.1
          have d2 : ¬ (0 < t - f ∧ lo < -f / (t - f)) := hn2
          conv => whnf
          refine call_data rfl rfl (sign_q (.mk (bt.sub bf) (by omega))) ?_
          conv => whnf
          refine cond_d (fun c4 => ?_) (fun c4 => ?_)
          · have d4 : t - f < 0 := by rw [sgnI_eq] at c4; exact sgnQ_neg.1 c4
            conv => whnf
            refine call_data rfl rfl (cmp_q (.mk bt2 (by omega)) (.mk hbhi (by omega))) ?_
            conv => whnf
            refine cond_d (fun c5 => ?_) (fun c5 => ?_)
            · have d5 : -f / (t - f) < hi := by rw [cmpI_eq] at c5; unfold cmpQ at c5; split at c5 <;> (try split at c5) <;> first | assumption | omega
              have hs : clTo x0 y0 x1 y1 xa ya xb yb (2 + 1) = some (lo, -f / (t - f)) := by rw [hstep]; unfold clStep; rw [if_neg d1, if_neg d2, if_pos ⟨d4, d5⟩]
              conv => whnf
              refine sd_d (by omega) ?_
              conv => whnf
              refine ⟨(2 + 1, lo, -f / (t - f)), ⟨by show 2 + 1 ≤ 4; omega, hs, hblo, bt2⟩, by show 4 - (2 + 1) < 4 - 2; omega, ?_⟩
              refine weak_dead 3 rfl (weak_dead 4 rfl (weak_dead 5 rfl (weak_dead 6 rfl ?_)))
              refine weak_r ?_ ?_ <;> repeat' (first | exact trivial | exact rfl | refine And.intro ?_ ?_)
            · have d5 : ¬ -f / (t - f) < hi := by
                intro h; apply c5; rw [cmpI_eq]; unfold cmpQ; rw [if_pos h]; omega
              have hs : clTo x0 y0 x1 y1 xa ya xb yb (2 + 1) = some (lo, hi) := by rw [hstep]; unfold clStep; rw [if_neg d1, if_neg d2, if_neg (fun h => d5 h.2)]
              conv => whnf
              refine sd_d (by omega) ?_
              conv => whnf
              refine ⟨(2 + 1, lo, hi), ⟨by show 2 + 1 ≤ 4; omega, hs, hblo, hbhi⟩, by show 4 - (2 + 1) < 4 - 2; omega, ?_⟩
              refine weak_dead 3 rfl (weak_dead 4 rfl (weak_dead 5 rfl (weak_dead 6 rfl ?_)))
              refine weak_r ?_ ?_ <;> repeat' (first | exact trivial | exact rfl | refine And.intro ?_ ?_)
          · have d4 : ¬ t - f < 0 := by rw [sgnI_eq] at c4; exact fun h => c4 (sgnQ_neg.2 h)
            have hs : clTo x0 y0 x1 y1 xa ya xb yb (2 + 1) = some (lo, hi) := by rw [hstep]; unfold clStep; rw [if_neg d1, if_neg d2, if_neg (fun h => d4 h.1)]
            conv => whnf
            refine sd_d (by omega) ?_
            conv => whnf
            refine ⟨(2 + 1, lo, hi), ⟨by show 2 + 1 ≤ 4; omega, hs, hblo, hbhi⟩, by show 4 - (2 + 1) < 4 - 2; omega, ?_⟩
            refine weak_dead 3 rfl (weak_dead 4 rfl (weak_dead 5 rfl (weak_dead 6 rfl ?_)))
            refine weak_r ?_ ?_ <;> repeat' (first | exact trivial | exact rfl | refine And.intro ?_ ?_)
    · conv => whnf
      refine cond_dt (by omega) ?_
      conv => whnf
      refine sd_d (by omega) ?_
      conv => whnf
      obtain ⟨f, hf⟩ : ∃ f, f = (y1-ya) := ⟨_, rfl⟩
      obtain ⟨t, ht⟩ : ∃ t, t = (y1-yb) := ⟨_, rfl⟩
      have hsf : sdQ x0 y0 x1 y1 xa ya 3 = f := hf.symm
      have hst : sdQ x0 y0 x1 y1 xb yb 3 = t := ht.symm
      have bf : Bd (2 * n + 1) f := by rw [hf]; first | exact (ha.1.sub h0.1).mono (by omega) | exact (h1.1.sub ha.1).mono (by omega) | exact (ha.2.sub h0.2).mono (by omega) | exact (h1.2.sub ha.2).mono (by omega)
      have bt : Bd (2 * n + 1) t := by rw [ht]; first | exact (hb.1.sub h0.1).mono (by omega) | exact (h1.1.sub hb.1).mono (by omega) | exact (hb.2.sub h0.2).mono (by omega) | exact (h1.2.sub hb.2).mono (by omega)
      have k1 : Fun Tryz.prog 159 [ptD xa ya, .p 0 (quD x0 y0 x1 y1).cells] [ratD f] := by rw [hf]; exact side4_c (.mk h1.2 (by omega)) (.mk ha.2 (by omega))
      have k2 : Fun Tryz.prog 159 [ptD xb yb, .p 0 (quD x0 y0 x1 y1).cells] [ratD t] := by rw [ht]; exact side4_c (.mk h1.2 (by omega)) (.mk hb.2 (by omega))
      refine callv_data k1 ?_
      conv => whnf
      refine callv_data k2 ?_
      conv => whnf
      refine safe_intro (by kernel_rfl) ?_
      conv => whnf
      refine call_data rfl rfl (sub_q (.mk bt (by omega)) (.mk bf (by omega))) ?_
      conv => whnf
      refine callv_data (neg_q (.mk bf (by omega))) ?_
      conv => whnf
      refine callv_data (quo_q (.mk bf.neg (by omega)) (.mk (bt.sub bf) (by omega))) ?_
      conv => whnf
      refine safe_intro (by kernel_rfl) ?_
      conv => whnf
      have hE : eQ (t - f) = if t - f = 0 then 10 else 0 := by unfold eQ; rfl
      have hstep : clTo x0 y0 x1 y1 xa ya xb yb (3 + 1) = clStep f t (lo, hi) := by
        show (clTo x0 y0 x1 y1 xa ya xb yb 3).bind (clStep (sdQ x0 y0 x1 y1 xa ya 3) (sdQ x0 y0 x1 y1 xb yb 3)) = _
        rw [he, hsf, hst]; rfl
      refine cond_ne (fun c1 => ?_) (fun c1 => ?_)
      · have d1 : t - f = 0 := by
          by_cases h : t - f = 0
          · exact h
          · rw [hE, if_neg h] at c1; exact absurd rfl c1
        conv => whnf
        refine call_data rfl rfl (sign_q (.mk bf (by omega))) ?_
        conv => whnf
        refine cond_d (fun c2 => ?_) (fun c2 => ?_)
        · have d2 : f < 0 := by rw [sgnI_eq] at c2; exact sgnQ_neg.1 c2
          have hnn : clTo x0 y0 x1 y1 xa ya xb yb (3 + 1) = none := by rw [hstep]; unfold clStep; rw [if_pos d1, if_pos d2]
          obtain ⟨eV, eB⟩ := hK (clTo_none hnn (3 - 3))
          conv => whnf
          refine ⟨?_, ?_, ?_, trivial⟩
          · rw [eV]
            conv => whnf
            rw [rneg_zero, rnum_zero, rden_zero]
            exact ⟨rfl, rfl, rfl, rfl, rfl, rfl, rfl, rfl, rfl, rfl, rfl, rfl, trivial⟩
          · rw [eB]
            conv => whnf
          · conv => whnf
        · have d2 : ¬ f < 0 := by rw [sgnI_eq] at c2; exact fun h => c2 (sgnQ_neg.2 h)
          have hs : clTo x0 y0 x1 y1 xa ya xb yb (3 + 1) = some (lo, hi) := by rw [hstep]; unfold clStep; rw [if_pos d1, if_neg d2]
          conv => whnf
          refine cond_ne (fun _ => ?_) (fun c => absurd c c1)
          conv => whnf
          refine sd_d (by omega) ?_
          conv => whnf
          refine ⟨(3 + 1, lo, hi), ⟨by show 3 + 1 ≤ 4; omega, hs, hblo, hbhi⟩, by show 4 - (3 + 1) < 4 - 3; omega, ?_⟩
          refine weak_dead 3 rfl (weak_dead 4 rfl (weak_dead 5 rfl (weak_dead 6 rfl ?_)))
          refine weak_r ?_ ?_ <;> repeat' (first | exact trivial | exact rfl | refine And.intro ?_ ?_)
      · have d1 : t - f ≠ 0 := by
          intro h; rw [hE, if_pos h] at c1; exact absurd c1 (by decide)
        have bt2 : Bd (6 * n + 4) (-f / (t - f)) := (bf.neg.div (bt.sub bf)).mono (by omega)
        conv => whnf
        refine cond_ne (fun c => absurd c1 c) (fun _ => ?_)
        conv => whnf
        refine call_data rfl rfl (sign_q (.mk (bt.sub bf) (by omega))) ?_
        conv => whnf
        refine cond_d (fun c4 => ?_) (fun c4 => ?_)
        · have d4 : 0 < t - f := by rw [sgnI_eq] at c4; exact sgnQ_pos.1 c4
          conv => whnf
          refine call_data rfl rfl (cmp_q (.mk bt2 (by omega)) (.mk hblo (by omega))) ?_
          conv => whnf
          refine cond_d (fun c5 => ?_) (fun c5 => ?_)
          · have d5 : lo < -f / (t - f) := by
              rw [cmpI_eq] at c5; unfold cmpQ at c5
              split at c5
              · omega
              · split at c5
                · assumption
                · omega
            have hs : clTo x0 y0 x1 y1 xa ya xb yb (3 + 1) = some (-f / (t - f), hi) := by rw [hstep]; unfold clStep; rw [if_neg d1, if_pos ⟨d4, d5⟩]
            conv => whnf
            refine sd_d (by omega) ?_
            conv => whnf
            refine ⟨(3 + 1, -f / (t - f), hi), ⟨by show 3 + 1 ≤ 4; omega, hs, bt2, hbhi⟩, by show 4 - (3 + 1) < 4 - 3; omega, ?_⟩
            refine weak_dead 3 rfl (weak_dead 4 rfl (weak_dead 5 rfl (weak_dead 6 rfl ?_)))
            refine weak_r ?_ ?_ <;> repeat' (first | exact trivial | exact rfl | refine And.intro ?_ ?_)
          · have hn2 : ¬ (0 < t - f ∧ lo < -f / (t - f)) := fun h => by
              apply c5; rw [cmpI_eq]; unfold cmpQ
              rw [if_neg (by have := h.2; grind), if_pos h.2]; omega
            have d2 : ¬ (0 < t - f ∧ lo < -f / (t - f)) := hn2
            conv => whnf
            refine call_data rfl rfl (sign_q (.mk (bt.sub bf) (by omega))) ?_
            conv => whnf
            refine cond_d (fun c4 => ?_) (fun c4 => ?_)
            · have d4 : t - f < 0 := by rw [sgnI_eq] at c4; exact sgnQ_neg.1 c4
              conv => whnf
              refine call_data rfl rfl (cmp_q (.mk bt2 (by omega)) (.mk hbhi (by omega))) ?_
              conv => whnf
              refine cond_d (fun c5 => ?_) (fun c5 => ?_)
              · have d5 : -f / (t - f) < hi := by rw [cmpI_eq] at c5; unfold cmpQ at c5; split at c5 <;> (try split at c5) <;> first | assumption | omega
                have hs : clTo x0 y0 x1 y1 xa ya xb yb (3 + 1) = some (lo, -f / (t - f)) := by rw [hstep]; unfold clStep; rw [if_neg d1, if_neg d2, if_pos ⟨d4, d5⟩]
                conv => whnf
                refine sd_d (by omega) ?_
                conv => whnf
                refine ⟨(3 + 1, lo, -f / (t - f)), ⟨by show 3 + 1 ≤ 4; omega, hs, hblo, bt2⟩, by show 4 - (3 + 1) < 4 - 3; omega, ?_⟩
                refine weak_dead 3 rfl (weak_dead 4 rfl (weak_dead 5 rfl (weak_dead 6 rfl ?_)))
                refine weak_r ?_ ?_ <;> repeat' (first | exact trivial | exact rfl | refine And.intro ?_ ?_)
              · have d5 : ¬ -f / (t - f) < hi := by
                  intro h; apply c5; rw [cmpI_eq]; unfold cmpQ; rw [if_pos h]; omega
                have hs : clTo x0 y0 x1 y1 xa ya xb yb (3 + 1) = some (lo, hi) := by rw [hstep]; unfold clStep; rw [if_neg d1, if_neg d2, if_neg (fun h => d5 h.2)]
                conv => whnf
                refine sd_d (by omega) ?_
                conv => whnf
                refine ⟨(3 + 1, lo, hi), ⟨by show 3 + 1 ≤ 4; omega, hs, hblo, hbhi⟩, by show 4 - (3 + 1) < 4 - 3; omega, ?_⟩
                refine weak_dead 3 rfl (weak_dead 4 rfl (weak_dead 5 rfl (weak_dead 6 rfl ?_)))
                refine weak_r ?_ ?_ <;> repeat' (first | exact trivial | exact rfl | refine And.intro ?_ ?_)
            · have d4 : ¬ t - f < 0 := by rw [sgnI_eq] at c4; exact fun h => c4 (sgnQ_neg.2 h)
              have hs : clTo x0 y0 x1 y1 xa ya xb yb (3 + 1) = some (lo, hi) := by rw [hstep]; unfold clStep; rw [if_neg d1, if_neg d2, if_neg (fun h => d4 h.1)]
              conv => whnf
              refine sd_d (by omega) ?_
              conv => whnf
              refine ⟨(3 + 1, lo, hi), ⟨by show 3 + 1 ≤ 4; omega, hs, hblo, hbhi⟩, by show 4 - (3 + 1) < 4 - 3; omega, ?_⟩
              refine weak_dead 3 rfl (weak_dead 4 rfl (weak_dead 5 rfl (weak_dead 6 rfl ?_)))
              refine weak_r ?_ ?_ <;> repeat' (first | exact trivial | exact rfl | refine And.intro ?_ ?_)
        · have hn2 : ¬ (0 < t - f ∧ lo < -f / (t - f)) := fun h => by
            apply c4; rw [sgnI_eq]; exact sgnQ_pos.2 h.1
          have d2 : ¬ (0 < t - f ∧ lo < -f / (t - f)) := hn2
          conv => whnf
          refine call_data rfl rfl (sign_q (.mk (bt.sub bf) (by omega))) ?_
          conv => whnf
          refine cond_d (fun c4 => ?_) (fun c4 => ?_)
          · have d4 : t - f < 0 := by rw [sgnI_eq] at c4; exact sgnQ_neg.1 c4
            conv => whnf
            refine call_data rfl rfl (cmp_q (.mk bt2 (by omega)) (.mk hbhi (by omega))) ?_
            conv => whnf
            refine cond_d (fun c5 => ?_) (fun c5 => ?_)
            · have d5 : -f / (t - f) < hi := by rw [cmpI_eq] at c5; unfold cmpQ at c5; split at c5 <;> (try split at c5) <;> first | assumption | omega
              have hs : clTo x0 y0 x1 y1 xa ya xb yb (3 + 1) = some (lo, -f / (t - f)) := by rw [hstep]; unfold clStep; rw [if_neg d1, if_neg d2, if_pos ⟨d4, d5⟩]
              conv => whnf
              refine sd_d (by omega) ?_
              conv => whnf
              refine ⟨(3 + 1, lo, -f / (t - f)), ⟨by show 3 + 1 ≤ 4; omega, hs, hblo, bt2⟩, by show 4 - (3 + 1) < 4 - 3; omega, ?_⟩
              refine weak_dead 3 rfl (weak_dead 4 rfl (weak_dead 5 rfl (weak_dead 6 rfl ?_)))
              refine weak_r ?_ ?_ <;> repeat' (first | exact trivial | exact rfl | refine And.intro ?_ ?_)
            · have d5 : ¬ -f / (t - f) < hi := by
                intro h; apply c5; rw [cmpI_eq]; unfold cmpQ; rw [if_pos h]; omega
              have hs : clTo x0 y0 x1 y1 xa ya xb yb (3 + 1) = some (lo, hi) := by rw [hstep]; unfold clStep; rw [if_neg d1, if_neg d2, if_neg (fun h => d5 h.2)]
              conv => whnf
              refine sd_d (by omega) ?_
              conv => whnf
              refine ⟨(3 + 1, lo, hi), ⟨by show 3 + 1 ≤ 4; omega, hs, hblo, hbhi⟩, by show 4 - (3 + 1) < 4 - 3; omega, ?_⟩
              refine weak_dead 3 rfl (weak_dead 4 rfl (weak_dead 5 rfl (weak_dead 6 rfl ?_)))
              refine weak_r ?_ ?_ <;> repeat' (first | exact trivial | exact rfl | refine And.intro ?_ ?_)
          · have d4 : ¬ t - f < 0 := by rw [sgnI_eq] at c4; exact fun h => c4 (sgnQ_neg.2 h)
            have hs : clTo x0 y0 x1 y1 xa ya xb yb (3 + 1) = some (lo, hi) := by rw [hstep]; unfold clStep; rw [if_neg d1, if_neg d2, if_neg (fun h => d4 h.1)]
            conv => whnf
            refine sd_d (by omega) ?_
            conv => whnf
            refine ⟨(3 + 1, lo, hi), ⟨by show 3 + 1 ≤ 4; omega, hs, hblo, hbhi⟩, by show 4 - (3 + 1) < 4 - 3; omega, ?_⟩
            refine weak_dead 3 rfl (weak_dead 4 rfl (weak_dead 5 rfl (weak_dead 6 rfl ?_)))
            refine weak_r ?_ ?_ <;> repeat' (first | exact trivial | exact rfl | refine And.intro ?_ ?_)
    · conv => whnf
      refine cond_df (by omega) ?_
      conv => whnf
      refine ⟨(lo, hi), ⟨he, hblo, hbhi⟩, ?_⟩
      refine weak_r ?_ ?_ <;> repeat' (first | exact trivial | exact rfl | refine And.intro ?_ ?_)
theorem clip_c3 {xa ya xb yb x0 y0 x1 y1 : Rat} {n : Nat} (ha : Bd n xa ∧ Bd n ya) (hb : Bd n xb ∧ Bd n yb) (hn : n < 1000000000) {lo hi : Rat} (hlo : Bd (6 * n + 4) lo) (hhi : Bd (6 * n + 4) hi)
    {c : Code} (hc : Tryz.f25.body = some c) (V : Rat × Rat × Rat × Rat) (b : Bool) (hV : V = if hi < lo then (0, 0, 0, 0) else (xa + (xb - xa) * lo, ya + (yb - ya) * lo, xa + (xb - xa) * hi, ya + (yb - ya) * hi)) (hB : b = !decide (hi < lo)) :
    OkL Tryz.prog ((fl c).drop 8) (clSt xa ya xb yb x0 y0 x1 y1 4 lo hi) (clK V b) := by
  refine okL_go mixed tOk (mu := fun t => t == 4 || t == 7 || t == 8 || t == 11 || t == 12 || t == 13 || t == 14) ?_
  cases hc
  conv => whnf
  refine call_data rfl rfl (cmp_q (.mk hlo (by omega)) (.mk hhi (by omega))) ?_
  conv => whnf
  refine cond_d (fun c1 => ?_) (fun c1 => ?_)
  · have d : hi < lo := by
      rw [cmpI_eq] at c1; unfold cmpQ at c1
      split at c1
      · omega
      · split at c1
        · assumption
        · omega
    rw [if_pos d] at hV
    rw [decide_eq_true d] at hB
    conv => whnf
    refine ⟨?_, ?_, ?_, trivial⟩
    · rw [hV]
      conv => whnf
      rw [rneg_zero, rnum_zero, rden_zero]
      exact ⟨rfl, rfl, rfl, rfl, rfl, rfl, rfl, rfl, rfl, rfl, rfl, rfl, trivial⟩
    · rw [hB]
      conv => whnf
      rfl
    · conv => whnf
  · have d : ¬ hi < lo := fun h => by
      apply c1; rw [cmpI_eq]; unfold cmpQ
      rw [if_neg (by grind), if_pos h]; omega
    rw [if_neg d] at hV
    rw [decide_eq_false d] at hB
    conv => whnf
    refine callv_data (vat_c ha.1 ha.2 hb.1 hb.2 hlo (by omega) (by omega)) ?_
    conv => whnf
    refine callv_data (vat_c ha.1 ha.2 hb.1 hb.2 hhi (by omega) (by omega)) ?_
    conv => whnf
    refine safe_intro (by kernel_rfl) ?_
    conv => whnf
    refine ⟨?_, ?_, ?_, trivial⟩
    · rw [hV]
      conv => whnf
      exact ⟨rfl, rfl, rfl, rfl, rfl, rfl, rfl, rfl, rfl, rfl, rfl, rfl, trivial⟩
    · rw [hB]
      conv => whnf
      rfl
    · conv => whnf
theorem clip_c {xa ya xb yb x0 y0 x1 y1 : Rat} {n : Nat} (ha : Bd n xa ∧ Bd n ya) (hb : Bd n xb ∧ Bd n yb) (h0 : Bd n x0 ∧ Bd n y0) (h1 : Bd n x1 ∧ Bd n y1) (hn : n < 1000000000)
    (hne : ¬ (xa = xb ∧ ya = yb)) (hx : x0 ≤ x1) (hy : y0 ≤ y1) :
    Fun Tryz.prog 25 [quD xa ya xb yb, quD x0 y0 x1 y1] [quD (clV x0 y0 x1 y1 xa ya xb yb).1 (clV x0 y0 x1 y1 xa ya xb yb).2.1 (clV x0 y0 x1 y1 xa ya xb yb).2.2.1 (clV x0 y0 x1 y1 xa ya xb yb).2.2.2, .v (.bool (clB x0 y0 x1 y1 xa ya xb yb)), i64 0] := by
  refine fun_of_okX mixed tOk (fn := Tryz.f25) (c := _) rfl rfl rfl ?_
  show Ok _ _ _ (clK (clV x0 y0 x1 y1 xa ya xb yb) (clB x0 y0 x1 y1 xa ya xb yb))
  refine ok_cut 7 (fun t => t == 4 || t == 7 || t == 8 || t == 11 || t == 12 || t == 13 || t == 14) (fun _ : Unit => clSt xa ya xb yb x0 y0 x1 y1 0 0 1) (fun _ => True) mixed tOk (by decide) (clip_c1 ha hb h0 h1 hn hne hx hy rfl _) fun _ _ => ?_
  refine okL_cut 1 (fun t => t == 4 || t == 7 || t == 8 || t == 11 || t == 12 || t == 13 || t == 14) (fun p : Rat × Rat => clSt xa ya xb yb x0 y0 x1 y1 4 p.1 p.2) _ mixed tOk (by decide) (clip_c2 ha hb h0 h1 hn rfl _ _ (fun h => ?_)) fun p hp => ?_
  · unfold clV clB; rw [h]; exact ⟨rfl, rfl⟩
  · rw [List.drop_drop]
    obtain ⟨e, e1, e2⟩ := hp
    exact clip_c3 ha hb hn e1 e2 rfl _ _ (by unfold clV; rw [e]) (by unfold clB; rw [e])
end Go.Nv
end
