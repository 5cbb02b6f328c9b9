import Derived.Test.YtdjbkccoofcnjaaGreatNvD9
import Derived.Test.YtdjbkccoofcnjaaGreatNvD7
set_option linter.all false
set_option linter.unusedVariables false
set_option linter.unusedSimpArgs false
section
namespace Go.Nv
open Go.Proofs Nw
set_option maxRecDepth 100000
set_option linter.unusedVariables false
set_option linter.unusedSimpArgs false
theorem law7a (hA : Fun Tryz.prog 12 [] [.v (.bool true)]) (o : List (RD × RD)) (hs : List (List (RD × RD))) (a b c d : RD) (m k : Int)
    (h : (g22 o hs || gtT [(a, b), (c, d)] m k) = true) : Fun Tryz.prog 7 [pgR o hs, quR a b c d, i64 m, i64 k] [.v (.bool true)] := by
  have hg := greatP_c o hs [(a, b), (c, d)] (by simp) m k
  rw [h] at hg
  refine fun_of_go (fun t => t == 13 || t == 14 || t == 16 || t == 17 || t == 18 || t == 20 || t == 24) mixed tOk Tryz.func7 rfl rfl ?_
  conv => whnf
  refine call_data rfl rfl hg ?_
  conv => whnf
  refine call_data rfl rfl hA ?_
  conv => whnf
  exact ⟨rfl, trivial⟩
theorem law7e (hA : Fun Tryz.prog 12 [] [.v (.bool true)]) (o : List (RD × RD)) (hs : List (List (RD × RD))) (a b c d : RD) (m k : Int) {f : Int}
    (h : (g22 o hs || gtT [(a, b), (c, d)] m k) = false) (h1 : Fun Tryz.prog 13 [pgR o hs, quR a b c d, i64 m, i64 k] [.l [], i64 f]) (hf : f ≠ 0)
    (h2 : Fun Tryz.prog 28 [pgR o hs, quR a b c d, i64 m, i64 k] [.l [], i64 f]) : Fun Tryz.prog 7 [pgR o hs, quR a b c d, i64 m, i64 k] [.v (.bool true)] := by
  have hg := greatP_c o hs [(a, b), (c, d)] (by simp) m k
  rw [h] at hg
  refine fun_of_go (fun t => t == 13 || t == 14 || t == 16 || t == 17 || t == 18 || t == 20 || t == 24) mixed tOk Tryz.func7 rfl rfl ?_
  conv => whnf
  refine call_data rfl rfl hg ?_
  conv => whnf
  refine call_data rfl rfl h1 ?_
  conv => whnf
  refine call_data rfl rfl h2 ?_
  conv => whnf
  refine cond_ne (fun hh => absurd rfl hh) (fun _ => ?_)
  conv => whnf
  refine cond_bt (by simpa using hf) ?_
  conv => whnf
  refine sd_d (by decide) ?_
  conv => whnf
  refine cond_dt (by decide) ?_
  conv => whnf
  refine call_data rfl rfl hA ?_
  conv => whnf
  refine ⟨?_, trivial⟩
  conv => whnf
theorem exQ_lo : ∀ {l : List Rat} {a : Rat}, 0 ≤ exQ (-1) a l → 0 ≤ a ∧ ∀ b ∈ l, 0 ≤ b
  | [], a, h => ⟨h, by simp⟩
  | r :: l, a, h => by
    unfold exQ at h
    obtain ⟨h1, h2⟩ := exQ_lo h
    by_cases hc : cmpI r a = -1
    · rw [if_pos hc] at h1
      have hlt := cmpI_neg.1 (show cmpI r a < 0 by omega)
      refine ⟨by grind, fun b hb => ?_⟩
      rcases List.mem_cons.1 hb with rfl | hb
      · exact h1
      · exact h2 b hb
    · rw [if_neg hc] at h1
      have hle : ¬ r < a := fun h => by
        have h3 := cmpI_neg.2 h
        rcases cmpI_rng r a with e | e | e <;> omega
      refine ⟨h1, fun b hb => ?_⟩
      rcases List.mem_cons.1 hb with rfl | hb
      · grind
      · exact h2 b hb
theorem inB_le {x0 y0 x1 y1 x y : Rat} (h : inB x0 y0 x1 y1 x y = true) : x0 ≤ x ∧ x ≤ x1 ∧ y0 ≤ y ∧ y ≤ y1 := by
  unfold inB at h
  have h1 := exQ_lo (sgnI_nonneg.1 (of_decide_eq_true h))
  have a := h1.1
  have b := h1.2 (y - y0) (by simp)
  have c := h1.2 (x1 - x) (by simp)
  have d := h1.2 (y1 - y) (by simp)
  exact ⟨by grind, by grind, by grind, by grind⟩
theorem qm_get' {N i : Nat} {g : Nat → Rat} (h : i < N) : (qL ((List.range N).map g))[((i : Nat) : Int).toNat]? = some (ratD (g i)) := qm_get rfl h
theorem bm_get {N i : Nat} {g : Nat → Bool} (h : i < N) : (bL ((List.range N).map g))[((i : Nat) : Int).toNat]? = some (.v (.bool (g i))) := by
  simp [bL, h]
def insB (x0 y0 x1 y1 : Rat) (l : List P2) : Bool := l.all fun p => inB x0 y0 x1 y1 p.1 p.2
def l7St (x0 y0 x1 y1 : Rat) (c r : Int) (o : List P2) (hs : List (List P2)) (g : Nat → Rat) (g' : Nat → Bool) (N i : Nat) : St :=
  ⟨fr 190 [(2, .d (i64 c)), (3, .d (i64 r)), (4, .d (.p 0 [.l (pL o), .l (hQ hs)])), (5, .d (.p 0 (quD x0 y0 x1 y1).cells)), (9, .d (.l (qL ((List.range N).map g)))), (11, .d (.l (bL ((List.range N).map g')))), (13, .ptr 0 0 0), (14, .ptr 1 0 0),
    (90, .d (.l (qL ((List.range N).map g)))), (91, .d (i64 (qL ((List.range N).map g)).length)), (92, .d (i64 i))], [.box 27 ((ratD 1).cells.map .d), .box 27 ((ratD (sumN g i)).cells.map .d)]⟩
theorem ins_take {x0 y0 x1 y1 : Rat} {l : List P2} {j : Nat} (h : j < l.length) : insB x0 y0 x1 y1 (l.take (j + 1)) = (insB x0 y0 x1 y1 (l.take j) && inB x0 y0 x1 y1 l[j].1 l[j].2) := by
  unfold insB; rw [List.take_succ_eq_append_getElem h, List.all_append]; simp
def l7Su (x0 y0 x1 y1 : Rat) (o : List P2) (s p a : Rat) (j : Nat) : St :=
  ⟨fr 190 [(5, .d (.p 0 (quD x0 y0 x1 y1).cells)), (14, .ptr 1 0 0), (18, .ptr 3 0 0), (19, .d (i64 0)), (20, .ptr 4 0 0), (21, .d (i64 0)), (22, .d (.v (.bool (insB x0 y0 x1 y1 (o.take j))))),
    (151, .d (.l (pL o))), (152, .d (i64 (pL o).length)), (153, .d (i64 j))], [.box 27 ((ratD 1).cells.map .d), .box 27 ((ratD s).cells.map .d), .box 29 ((ptD (x1 - x0) (y1 - y0)).cells.map .d), .box 27 ((ratD p).cells.map .d), .box 27 ((ratD a).cells.map .d)]⟩
theorem sumN_bd {g : Nat → Rat} {m : Nat} : ∀ {n : Nat}, (∀ j, j < n → Bd m (g j)) → ∀ i, i ≤ n → Bd (i * (m + 1)) (sumN g i)
  | n, h, 0, _ => by simp only [sumN, Nat.zero_mul]; exact bd_int 0 (by simp)
  | n, h, i + 1, hi => by
    simp only [sumN]
    exact ((sumN_bd h i (by omega)).add (h i (by omega))).mono (by rw [Nat.add_mul i 1]; omega)
set_option maxHeartbeats 4000000 in
theorem law7b (hA : Fun Tryz.prog 12 [] [.v (.bool true)]) {o : List P2} {hs : List (List P2)} {x0 y0 x1 y1 : Rat} {c r : Int} {g : Nat → Rat} {g' : Nat → Bool} (h0 : Bd 12 x0) (h1 : Bd 12 y0) (h2 : Bd 12 x1) (h3 : Bd 12 y1)
    (ho : ∀ p ∈ o, BP 12 p) (hlo : o.length ≤ 100) (hh : ∀ h ∈ hs, (∀ p ∈ h, BP 12 p) ∧ h.length ≤ 100) (hlh : hs.length ≤ 8)
    (hx : x0 < x1) (hy : y0 < y1) (hcr : 1 ≤ c ∧ c ≤ 128) (hrr : 1 ≤ r ∧ r ≤ 128) (h36 : c * r ≤ 36)
    (hg : Fun Tryz.prog 11 [.a [.l (pL o), .l (hQ hs)], i64 c, i64 r, .l [ptD x0 y0, ptD x1 y1]] [.v (.bool false)]) (hck : Fun Tryz.prog 48 [.a [.l (pL o), .l (hQ hs)]] [i64 0])
    (k1 : Fun Tryz.prog 13 [.a [.l (pL o), .l (hQ hs)], quD x0 y0 x1 y1, i64 c, i64 r] [.l (qL ((List.range (c.toNat * r.toNat)).map g)), i64 0])
    (k2 : Fun Tryz.prog 28 [.a [.l (pL o), .l (hQ hs)], quD x0 y0 x1 y1, i64 c, i64 r] [.l (bL ((List.range (c.toNat * r.toNat)).map g')), i64 0])
    (hbd : ∀ j : Nat, j < c.toNat * r.toNat → Bd 2000000000 (g j)) (hrng : ∀ j : Nat, 0 ≤ g j ∧ g j ≤ 1) (hcen : ∀ j : Nat, g j = 1 → g' j = true)
    (hle : sumN g (c.toNat * r.toNat) * ((x1 - x0) * (y1 - y0) / (c * r : Int)) ≤ arS o hs) (heq : insB x0 y0 x1 y1 o = true → sumN g (c.toNat * r.toNat) * ((x1 - x0) * (y1 - y0) / (c * r : Int)) = arS o hs) :
    Fun Tryz.prog 7 [.a [.l (pL o), .l (hQ hs)], quD x0 y0 x1 y1, i64 c, i64 r] [.v (.bool true)] := by
  have l1 : (qL ((List.range (c.toNat * r.toNat)).map g)).length = c.toNat * r.toNat := by simp
  have l2 : (bL ((List.range (c.toNat * r.toNat)).map g')).length = c.toNat * r.toNat := by simp
  have kN : ((c.toNat * r.toNat : Nat) : Int) = c * r := by rw [Int.natCast_mul, Int.toNat_of_nonneg (by omega), Int.toNat_of_nonneg (by omega)]
  have kp : 0 < c * r := Int.mul_pos (by omega) (by omega)
  have hsb := sumN_bd hbd
  refine fun_of_go (fun t => t == 13 || t == 14 || t == 16 || t == 17 || t == 18 || t == 20 || t == 24) mixed tOk Tryz.func7 rfl rfl ?_
  conv => whnf
  refine call_data rfl rfl hg ?_
  conv => whnf
  refine call_data rfl rfl k1 ?_
  conv => whnf
  refine call_data rfl rfl k2 ?_
  conv => whnf
  refine cond_bf (by decide) ?_
  conv => whnf
  refine cond_bf (by decide) ?_
  conv => whnf
  refine cond_df (by omega) ?_
  conv => whnf
  refine cond_df (by omega) ?_
  conv => whnf
  refine sd_d (by omega) ?_
  conv => whnf
  refine cond_ne (fun hh => absurd (by rw [l1, kN]) hh) (fun _ => ?_)
  conv => whnf
  refine sd_d (by omega) ?_
  conv => whnf
  refine cond_ne (fun hh => absurd (by rw [l2, kN]) hh) (fun _ => ?_)
  conv => whnf
  have hone := of_r 1 (by omega)
  rw [Rat.intCast_one] at hone
  have hzero := of_r 0 (by omega)
  rw [Rat.intCast_zero] at hzero
  refine call_data rfl rfl hone ?_
  conv => whnf
  refine call_data rfl rfl hzero ?_
  conv => whnf
  generalize hNN : c.toNat * r.toNat = N at *
  refine loop_intro (fun t => t == 13 || t == 14 || t == 16 || t == 17 || t == 18 || t == 20 || t == 24) (fun i : Nat => l7St x0 y0 x1 y1 c r o hs g g' N i) (fun i => i ≤ N) (fun i => N - i) 0 mixed tOk (by omega) ?_ ?_
  · unfold l7St
    rw [show sumN g 0 = 0 from rfl]
    refine weak_r ?_ ?_ <;> repeat' (first | exact trivial | exact rfl | refine And.intro ?_ ?_)
  · intro i hi
    have hsi := hsb i hi
    have hmi : i * (2000000000 + 1) ≤ 36 * 2000000001 := Nat.mul_le_mul (by omega) (by omega)
    conv => whnf
    refine cond_d (fun hlt => ?_) (fun hge => ?_)
    · have hlt' : i < N := by omega
      have hbi := hbd i hlt'
      obtain ⟨g0, g1⟩ := hrng i
      have hc1 := hcen i
      conv => whnf
      refine idx_intro (ratD (g i)) (qm_get' hlt') (by omega) (qL_uni _) ?_
      conv => whnf
      have q1 : Q (1 : Rat) := .mk (bd_int 1 (n := 0) (by simp)) (by omega)
      refine call_data rfl rfl (check_q (.mk hbi (by omega))) ?_
      conv => whnf
      refine cond_bf (by decide) ?_
      conv => whnf
      refine call_data rfl rfl (sign_q (.mk hbi (by omega))) ?_
      conv => whnf
      refine cond_df (by have := sgnI_nonneg.2 g0; omega) ?_
      conv => whnf
      refine call_data rfl rfl (cmp_q (.mk hbi (by omega)) q1) ?_
      conv => whnf
      refine cond_df (by have := cmpI_le.2 g1; omega) ?_
      conv => whnf
      have hz' : ∀ z, bz (eqDs [.v (.bool (rneg (g i))), .v (.string (rnum (g i))), .v (.string (rden (g i)))] [.v (.bool (rneg 1)), .v (.string (rnum 1)), .v (.string (rden 1))]) = z → z = decide (g i = 1) := by
        intro z h; rw [← h, bz_eq]; exact eqDs_rat _ _
      generalize hz : bz (eqDs _ _) = z
      have hz2 := hz' z hz
      clear hz hz'
      cases z with
      | true =>
        have hgi : g i = 1 := of_decide_eq_true hz2.symm
        have hci := hc1 hgi
        conv => whnf
        refine idx_intro (.v (.bool (g' i))) (bm_get hlt') (by omega) (bL_uni _) ?_
        conv => whnf
        rw [hci]
        conv => whnf
        refine call_data rfl rfl (add_q (.mk hsi (by omega)) (.mk hbi (by omega))) ?_
        conv => whnf
        refine sd_d (by omega) ?_
        conv => whnf
        refine ⟨i + 1, by omega, by omega, ?_⟩
        unfold l7St
        rw [show sumN g (i + 1) = sumN g i + g i from rfl, Int.natCast_succ]
        refine weak_dead 2 rfl ?_
        refine weak_r ?_ ?_ <;> repeat' (first | exact trivial | exact rfl | refine And.intro ?_ ?_)
      | false =>
        conv => whnf
        refine call_data rfl rfl (add_q (.mk hsi (by omega)) (.mk hbi (by omega))) ?_
        conv => whnf
        refine sd_d (by omega) ?_
        conv => whnf
        refine ⟨i + 1, by omega, by omega, ?_⟩
        unfold l7St
        rw [show sumN g (i + 1) = sumN g i + g i from rfl, Int.natCast_succ]
        refine weak_dead 2 rfl ?_
        refine weak_r ?_ ?_ <;> repeat' (first | exact trivial | exact rfl | refine And.intro ?_ ?_)
    · have : i = N := by omega
      subst this
      conv => whnf
      refine call_data rfl rfl (vsub_c (.mk h2 (by omega)) (.mk h3 (by omega)) (.mk h0 (by omega)) (.mk h1 (by omega))) ?_
      conv => whnf
      have bX := h2.sub h0
      have bY := h3.sub h1
      have bXY := bX.mul bY
      have bC : Bd 8 ((c * r : Int) : Rat) := bd_int _ (by have : (256:Nat)^8 = 18446744073709551616 := rfl; omega)
      have bP := bXY.div bC
      refine call_data rfl rfl (mul_q (.mk bX (by omega)) (.mk bY (by omega))) ?_
      conv => whnf
      refine sd_d (by omega) ?_
      conv => whnf
      refine call_data rfl rfl (of_r (c * r) (by omega)) ?_
      conv => whnf
      have hquo := quo_q (.mk bXY (by omega)) (.mk bC (by omega))
      rw [show eQ ((c * r : Int) : Rat) = 0 by unfold eQ; rw [if_neg (by have : ((0 : Int) : Rat) < ((c * r : Int) : Rat) := by exact_mod_cast kp
                                                                         grind)]] at hquo
      refine call_data rfl rfl hquo ?_
      conv => whnf
      refine call_data rfl rfl (parea_c hck ho hlo hh (by omega) hlh) ?_
      conv => whnf
      have hpl : (pL o).length = o.length := by simp
      refine loop_intro (fun t => t == 13 || t == 14 || t == 16 || t == 17 || t == 18 || t == 20 || t == 24) (fun j : Nat => l7Su x0 y0 x1 y1 o (sumN g i) ((x1 - x0) * (y1 - y0) / ((c * r : Int) : Rat)) (arS o hs) j) (fun j => j ≤ o.length) (fun j => o.length - j) 0 mixed tOk (by omega) ?_ ?_
      · unfold l7Su
        rw [show insB x0 y0 x1 y1 (o.take 0) = true by simp [insB]]
        refine weak_r ?_ ?_ <;> repeat' (first | exact trivial | exact rfl | refine And.intro ?_ ?_)
      · intro j hj
        conv => whnf
        refine cond_d (fun hlt => ?_) (fun hge => ?_)
        · have hlt' : j < o.length := by omega
          have bj := ho _ (List.getElem_mem hlt')
          have hta := ins_take (x0 := x0) (y0 := y0) (x1 := x1) (y1 := y1) hlt'
          conv => whnf
          refine idx_intro (pD o[j]) (pL_get hlt') (by omega) (pL_uni o) ?_
          conv => whnf
          cases hzz : insB x0 y0 x1 y1 (o.take j) with
          | true =>
            rw [hzz] at hta
            conv => whnf
            refine call_data rfl rfl (within_c h0 h1 h2 h3 bj.1 bj.2 (by omega)) ?_
            conv => whnf
            refine sd_d (by omega) ?_
            conv => whnf
            refine ⟨j + 1, by omega, by omega, ?_⟩
            unfold l7Su
            rw [hta, Int.natCast_succ]
            refine weak_dead 5 rfl ?_
            refine weak_r ?_ ?_ <;> repeat' (first | exact trivial | exact rfl | refine And.intro ?_ ?_)
          | false =>
            rw [hzz] at hta
            conv => whnf
            refine sd_d (by omega) ?_
            conv => whnf
            refine ⟨j + 1, by omega, by omega, ?_⟩
            unfold l7Su
            rw [hta, Int.natCast_succ]
            refine weak_dead 5 rfl ?_
            refine weak_r ?_ ?_ <;> repeat' (first | exact trivial | exact rfl | refine And.intro ?_ ?_)
        · have : j = o.length := by omega
          subst this
          rw [List.take_length]
          have bA : Bd 90000 (arS o hs) := by
            have := arS_bd ho hlo hh hs.length (Nat.le_refl _)
            rw [List.take_length] at this
            refine this.mono ?_
            have : (hs.length + 1) * (100 * (4 * 12 + 2) + 2) ≤ 9 * (100 * (4 * 12 + 2) + 2) := Nat.mul_le_mul_right _ (by omega)
            omega
          have bM := hsi.mul bP
          conv => whnf
          refine callv_data (mul_q (.mk hsi (by omega)) (.mk bP (by omega))) ?_
          conv => whnf
          refine callv_data (cmp_q (.mk bM (by omega)) (.mk bA (by omega))) ?_
          conv => whnf
          refine safe_intro (by kernel_rfl) ?_
          conv => whnf
          have hc2 := cmpI_le.2 hle
          have hc3 : insB x0 y0 x1 y1 o = true → cmpI (sumN g i * ((x1 - x0) * (y1 - y0) / ((c * r : Int) : Rat))) (arS o hs) = 0 := fun h => cmpI_zero.2 (heq h)
          generalize cmpI (sumN g i * ((x1 - x0) * (y1 - y0) / ((c * r : Int) : Rat))) (arS o hs) = z at *
          generalize hb : bz _ = b
          have hbt : b = true := by rw [← hb, bz_eq]; rfl
          clear hb
          subst hbt
          conv => whnf
          generalize hb : bz _ = b
          have hbt : b = true := by rw [← hb, bz_eq]; rfl
          clear hb
          subst hbt
          conv => whnf
          generalize hb : bz _ = b
          have hbt : b = true := by rw [← hb, bz_eq]; exact decide_eq_true hc2
          clear hb
          subst hbt
          conv => whnf
          cases hin : insB x0 y0 x1 y1 o with
          | true =>
            have hz0 := hc3 hin
            subst hz0
            conv => whnf
            generalize hb : bz _ = b
            have hbt : b = true := by rw [← hb, bz_eq]; rfl
            clear hb
            subst hbt
            conv => whnf
            refine call_data rfl rfl hA ?_
            conv => whnf
            refine ⟨?_, trivial⟩
            conv => whnf
          | false =>
            conv => whnf
            refine call_data rfl rfl hA ?_
            conv => whnf
            refine ⟨?_, trivial⟩
            conv => whnf
theorem law7 (hA : Fun Tryz.prog 12 [] [.v (.bool true)]) (o : List (RD × RD)) (hs : List (List (RD × RD))) (a b c d : RD) (m k : Int) : Fun Tryz.prog 7 [pgR o hs, quR a b c d, i64 m, i64 k] [.v (.bool true)] := by
  cases hg : (g22 o hs || gtT [(a, b), (c, d)] m k) with
  | true => exact law7a hA o hs a b c d m k hg
  | false =>
    have hg' := hg
    rw [Bool.or_eq_false_iff] at hg'
    have hpo := g22_ok hg'.1
    have hgt := hg'.2
    unfold gtT at hgt
    simp only [List.any_cons, List.any_nil, gtP, Bool.or_false, Bool.or_eq_false_iff, decide_eq_false_iff_not] at hgt
    obtain ⟨⟨⟨ga, gb⟩, gc, gd⟩, gn⟩ := hgt
    rcases both_any hpo ga gb gc gd m k with ⟨f, hf, h1, h2⟩ | ⟨m1, m2, k1, k2, hp, hx, hy, e1, e2, e3, e4⟩
    · exact law7e hA o hs a b c d m k hg h1 hf h2
    · have eq2 : quR a b c d = quD a.val b.val c.val d.val := by rw [quD_eq, e1, e2, e3, e4]
      have hcv := cover_c hpo (by omega) (gtR_bd ga) (gtR_bd gb) (gtR_bd gc) (gtR_bd gd) hx hy hp (c := m) (r := k) ⟨m1, m2⟩ ⟨k1, k2⟩
      have hce := centers_c hpo (by omega) (gtR_bd ga) (gtR_bd gb) (gtR_bd gc) (gtR_bd gd) hx hy hp (c := m) (r := k) ⟨m1, m2⟩ ⟨k1, k2⟩
      have hsh := fun j hj => cvP_sharp hpo hp (gtR_bd ga) (gtR_bd gb) (gtR_bd gc) (gtR_bd gd) (c := m) (r := k) ⟨m1, m2⟩ ⟨k1, k2⟩ j hj
      have hgr := greatP_c o hs [(a, b), (c, d)] (by simp) m k
      have hck := pcheck_o hpo (show 12 < 1000000 by omega)
      rw [hg, show (([(a, b), (c, d)] : List (RD × RD)).map fun p => ptR p.1 p.2) = [ptD a.val b.val, ptD c.val d.val] by
        simp only [List.map_cons, List.map_nil]; unfold ptD ptR rneg rnum rden; rw [e1, e2, e3, e4]] at hgr
      rw [hp] at hck
      obtain ⟨z1, z2, z3, z4⟩ := pgE_zero hp
      obtain ⟨o1, o2, o3, o4⟩ := rgR_zero z1
      obtain ⟨P, ro, rh⟩ := pgE_plg hp
      have epg : pgR o hs = .a [.l (pL (o.map vP)), .l (hQ (hs.map (List.map vP)))] := by
        unfold pgR; rw [rL_can o1, hR_can (fun l hl => (rgR_zero (z2 l hl)).1)]
      have ob : ∀ p ∈ o.map vP, BP 12 p := fun p hp => by obtain ⟨q, hq, rfl⟩ := List.mem_map.1 hp; exact (hpo.ob q hq).1
      have hb : ∀ x ∈ hs.map (List.map vP), (∀ p ∈ x, BP 12 p) ∧ x.length ≤ 100 := fun x hx => by
        obtain ⟨q, hq, rfl⟩ := List.mem_map.1 hx
        refine ⟨fun p hp => by obtain ⟨r, hr, rfl⟩ := List.mem_map.1 hp; exact (hpo.hb q hq r hr).1, ?_⟩
        have := rgR_zero (z2 q hq)
        rw [List.length_map]; omega
      have ol : (o.map vP).length = o.length := List.length_map ..
      have hhl : (hs.map (List.map vP)).length = hs.length := List.length_map ..
      have mN : (m.toNat : Int) = m := Int.toNat_of_nonneg (by omega)
      have kN : (k.toNat : Int) = k := Int.toNat_of_nonneg (by omega)
      have h36 : m * k ≤ 36 := by
        refine Classical.byContradiction fun hn => gn ⟨m1, m2, k1, k2, by omega⟩
      rw [eq2, epg]
      rw [epg] at hcv hce hgr hck
      generalize o.map vP = o' at *
      generalize hs.map (List.map vP) = hs' at *
      have hsum := cvP_sum (c := m.toNat) (r := k.toNat) (by omega) (by omega) hx hy o' hs'
      rw [mN, kN] at hsum
      obtain ⟨pl, pe⟩ := P.part_le hx hy
      have hcast : ((m * k : Int) : Rat) = (m : Rat) * (k : Rat) := by push_cast; rfl
      exact law7b hA (gtR_bd ga) (gtR_bd gb) (gtR_bd gc) (gtR_bd gd) ob (by omega) hb (by omega) hx hy ⟨m1, m2⟩ ⟨k1, k2⟩ h36 hgr hck hcv hce
        (fun j hj => hsh j (by
          have : ((m.toNat * k.toNat : Nat) : Int) = m * k := by rw [Int.natCast_mul, mN, kN]
          omega)) (fun j => cvP_rng (by omega) (by omega) hx hy P j) (fun j h1 => decide_eq_true (cvP_mid (by omega) (by omega) hx hy P ro rh j h1))
        (by rw [hsum, arS_pT]; grind)
        (fun hin => by
          rw [hsum, arS_pT, pe (fun p hp => by
            unfold insB at hin
            rw [List.all_eq_true] at hin
            exact inB_le (hin p hp))])
end Go.Nv
end
section
namespace Go.Nv
open Go.Proofs Nw Go.RowKit Go.ChangeAt Go.WideShapes Go.ChangeShapes
set_option maxRecDepth 100000
set_option linter.unusedVariables false
set_option linter.unusedSimpArgs false
open Go.Proofs.YtdjbkccoofcnjaaGreat in
theorem areas_lifted (hA : Fun Tryz.prog 12 [] [.v (.bool true)]) (os : Os) (started : os.Started) (H : Type) (enc : TypeId × Value → H) :
    ReturnsInHanded {} Tryz.checked os 7 .any (Rows.rasterAreasSpec.pre6 enc Tryz.prog Tryz.f7 Rows.rasterAreasRow.domain false) (Rows.rasterAreasSpec.post enc Tryz.prog Tryz.f7 false true false false) := by
  refine returnsInHanded_of_change (C := Tryz.checked) tryz_own started (by kernel_rfl) Tryz.func7
    (ChangeSpec.witness6 (enc := enc) (C := Tryz.checked) false ⟨#[], #[.agg #[.slice none 0 0, .slice none 0 0],
      .agg #[.bool false, .string ⟨#[]⟩, .string ⟨#[]⟩, .bool false, .string ⟨#[]⟩, .string ⟨#[]⟩, .bool false, .string ⟨#[]⟩, .string ⟨#[]⟩, .bool false, .string ⟨#[]⟩, .string ⟨#[]⟩], .int .i64 0, .int .i64 0], []⟩ 8 (by kernel_rfl) (by kernel_rfl) (by kernel_rfl) (by kernel_rfl)) ?_
  intro W base args ds gs before hval0 hW hcnd _
  have hval : ∀ (j : Nat) t v, Tryz.f7.params[j]? = some t → args[j]? = some v → Value.okWide Tryz.prog W .any base t v := hval0
  have hW' := hW
  obtain ⟨p, q, hA0, hV, rfl, hfz, hnd⟩ := hW
  have hAr : DataW.TrodAll enc Tryz.prog W 0 (fun _ => true) true Tryz.f7.params.toList args.toList ds p := hA0
  rw [Tryz.params7] at hAr hval
  obtain ⟨v0, v1, v2, v3, d0, d1, d2, d3, p0, p1, p2, p3, rfl, rfl, rfl, h0, h1, h2, h3⟩ := trodAll_four hAr
  obtain ⟨rfl, rfl⟩ := trodVars_none hV
  clear hA0 hval0
  obtain ⟨o, hs, e0⟩ := poly_den (hval 0 25 v0 rfl rfl) h0
  obtain ⟨aa, bb, cc, dd, e1⟩ := quad_den Tryz.underlying31 (by kernel_rfl) (by kernel_rfl) (hval 1 31 v1 rfl rfl)
  obtain ⟨m, rfl⟩ := cell_int Tryz.underlying3 (hval 2 3 v2 rfl rfl)
  obtain ⟨n, rfl⟩ := cell_int Tryz.underlying3 (hval 3 3 v3 rfl rfl)
  have hd : DenL W (fun _ => True) [pgR o hs, quR aa bb cc dd, i64 m, i64 n] [v0, v1, .int .i64 m, .int .i64 n] := .cons e0 (.cons (e1 _ _) (.cons (.v rfl) (.cons (.v rfl) (.nil _ _))))
  refine ((law7 hA o hs aa bb cc dd m n).2 W _ _ hd).mono fun e W' hr => ?_
  obtain ⟨v, rfl, hv, hb⟩ := hr
  obtain rfl : v = .bool true := by cases hv; rfl
  have hlt : ∀ x ∈ p0 ++ p1 ++ p2 ++ p3, x.block < W.heap.size := fun x hx => hW'.lt x (by simpa using hx)
  refine ⟨_, rfl, post_below (pa := p0 ++ (p1 ++ (p2 ++ p3))) (pv := []) hW' (by simp) hb (fun _ _ _ => trodAll_mk1 (shut_bool Tryz.underlying4 _)) (fun sp hsp => ?_) (fun _ _ => rfl) (ok_one (by kernel_rfl) rfl (okWide_bool_mk Tryz.underlying4 _))⟩
  have st : ∀ {t : TypeId} {v : Value} {d : DataW H} {ps : List MemPlace}, Tryz.prog.readableRec t = true → t < Tryz.prog.types.size → DataW.Trod enc Tryz.prog W 0 (fun _ => true) true t v d ps → (∀ x ∈ ps, x ∈ p0 ++ p1 ++ p2 ++ p3) → DataW.Trod enc Tryz.prog W' 0 sp true t v d ps :=
    fun hr hrow h hin => WideElems.Trod_stays tryz_laid hr hrow h (fun x hx => hb.same (hlt x (hin x hx))) (fun x hx => hsp x (by simpa using hin x hx))
  rw [Tryz.params7]
  exact trodAll_mk4 (st (by kernel_rfl) (of_decide_eq_true (by kernel_rfl)) h0 (fun x hx => by simp [hx])) (st (by kernel_rfl) (of_decide_eq_true (by kernel_rfl)) h1 (fun x hx => by simp [hx])) (st (by kernel_rfl) (of_decide_eq_true (by kernel_rfl)) h2 (fun x hx => by simp [hx])) (st (by kernel_rfl) (of_decide_eq_true (by kernel_rfl)) h3 (fun x hx => by simp [hx]))
end Go.Nv
end
