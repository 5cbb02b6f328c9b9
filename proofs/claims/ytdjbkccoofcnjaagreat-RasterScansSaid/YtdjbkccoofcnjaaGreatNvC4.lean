import Derived.Test.YtdjbkccoofcnjaaGreatNvC3
import Derived.Test.YtdjbkccoofcnjaaGreatNvP1
set_option linter.all false
set_option linter.unusedVariables false
set_option linter.unusedSimpArgs false
section
namespace Go.Nv
open Go.Proofs Nw
set_option maxRecDepth 100000
set_option linter.unusedVariables false
set_option linter.unusedSimpArgs false
def dg5a (b0 b1 b3 b4 b5 : B) (m R V i k s g : Nat) (b : Bool) : St := ⟨fr 194 [(0, .own 2 0), (1, .d (.l (us (ln V)))), (2, .d (i64 i)), (7, .d (i64 k)), (9, .d (u64 g)), (154, .d (.v (.bool b)))], [b0, b1, .row 0 171 1 4 (us (dl m (mix R (dD s k g V) i (k + 1)))), b3, b4, b5]⟩
theorem digit5a (b0 b1 b3 b4 b5 : B) {m R V i k s g : Nat} {c : Code} (hc : Tryz.f300.body = some c) (K : Ex → St → Prop) :
    goL Tryz.prog tbl (fun t => false) (((fl c).drop 9).take 1) (dg4 b0 b1 b3 b4 b5 m R V i k s g ())
      (lpX (fun st' => ∃ b : Bool, (b = true ↔ bor (s + 4294967296 ^ (k + 1)) (g * V) (k + 1) = 0) ∧ Weak st' (dg5a b0 b1 b3 b4 b5 m R V i k s g b)) K) := by
  unfold dg4 dg5a
  generalize bor (s + 4294967296 ^ (k + 1)) (g * V) (k + 1) = bo
  generalize mix R (dD s k g V) i (k + 1) = Rw
  cases hc
  conv => whnf
  refine ⟨bz ((bo : Int) == 0), ?_, ?_⟩
  · rw [bz_eq]
    simp
  · exact weak_x ⟨eqBP_refl _, eqBP_refl _, ⟨rfl, rfl, rfl, rfl, rfl⟩, eqBP_refl _, eqBP_refl _, eqBP_refl _, trivial⟩ ⟨trivial, rfl, rfl, rfl, rfl, rfl, trivial⟩
def dg6 (b0 b1 b3 b4 b5 : B) (m R V i k g D : Nat) (_ : Unit) : St := ⟨fr 194 [(0, .own 2 0), (1, .d (.l (us (ln V)))), (2, .d (i64 i)), (7, .d (i64 k)), (9, .d (u64 g))], [b0, b1, .row 0 171 1 4 (us (dl m (R % 4294967296 ^ i + D * 4294967296 ^ i))), b3, b4, b5]⟩
theorem digit5b (b0 b1 b3 b4 b5 : B) {m R V i k s g : Nat} {b : Bool} (h : Dg m R V i k s) (hg : g < 4294967296) (hgl : s / V ≤ g) (hgu : g ≤ s / V + 1) (hbb : b = true ↔ bor (s + 4294967296 ^ (k + 1)) (g * V) (k + 1) = 0) {c : Code} (hc : Tryz.f300.body = some c) (K : Ex → St → Prop)
    (hK : ∀ env, lk env 6 = .d (u32 (s / V : Nat)) → K .ret ⟨env, [b0, b1, .row 0 171 1 4 (us (dl m (R % 4294967296 ^ i + s % V * 4294967296 ^ i))), b3, b4, b5]⟩) :
    goL Tryz.prog tbl (fun t => false) (((fl c).drop 10).take 1) (dg5a b0 b1 b3 b4 b5 m R V i k s g b)
      (lpX (fun st' => ∃ u : Unit, (g = s / V + 1 ∧ dD s k g V < 4294967296 ^ (k + 1) ∧ (dD s k g V + V) % 4294967296 ^ (k + 1) = s % V) ∧ Weak st' (dg6 b0 b1 b3 b4 b5 m R V i k g (dD s k g V) u)) K) := by
  have lv := h.lv
  have hk := h.hk
  have hm := h.hm
  have hms := h.hms
  have hV0 : 0 < V := by
    rcases Nat.eq_zero_or_pos V with h0 | h0
    · have := h.hR; rw [h0] at this; omega
    · exact h0
  have hsB : s < 4294967296 ^ (k + 1) := by
    rw [Nat.pow_succ]
    exact Nat.lt_trans h.hR (Nat.mul_lt_mul_of_pos_right h.hV (by omega))
  have hRB : R < 4294967296 ^ (i + (k + 1)) := by
    have h1 := h.hs
    rw [Nat.pow_add, Nat.mul_comm]
    exact (Nat.div_lt_iff_lt_mul (bpos i)).1 (by omega)
  have hb := bor_end hsB (gV_lt hg h.hV)
  have hrow := mix_end (D := dD s k g V) hRB
  rw [hb] at hbb
  have hD : dD s k g V = s + 4294967296 ^ (k + 1) - g * V := rfl
  unfold dg5a
  rw [hrow]
  cases b with
  | true =>
    have hlt : ¬ s < g * V := by
      intro hlt
      rw [if_pos hlt] at hbb
      simp at hbb
    obtain ⟨r1, r2⟩ := dres1 hV0 h.hV hgl hlt
    rw [← hD] at r2
    rw [r2]
    cases hc
    conv => whnf
    refine hK _ ?_
    conv => whnf
    rw [← r1]
    have hgm : (g : Int) % 4294967296 = g := by omega
    show S.d (.v (.int .u32 ((g : Int) % 4294967296))) = _
    rw [hgm]
  | false =>
    have hlt : s < g * V := by
      by_cases hlt : s < g * V
      · exact hlt
      · rw [if_neg hlt] at hbb
        simp at hbb
    obtain ⟨r1, r2, r3⟩ := dres2 hV0 h.hV hgu hlt
    rw [← hD] at r2 r3
    rw [Nat.mod_eq_of_lt r2]
    cases hc
    conv => whnf
    refine ⟨(), ⟨r1, r2, r3⟩, ?_⟩
    exact weak_x ⟨eqBP_refl _, eqBP_refl _, ⟨rfl, rfl, rfl, rfl, rfl⟩, eqBP_refl _, eqBP_refl _, eqBP_refl _, trivial⟩ ⟨trivial, rfl, rfl, rfl, rfl, trivial⟩
end Go.Nv
end
section
namespace Go.Nv
open Go.Proofs Nw
set_option maxRecDepth 100000
set_option linter.unusedVariables false
set_option linter.unusedSimpArgs false
def dg5 (b0 b1 b3 b4 b5 : B) (m R V i k D g j : Nat) : St := ⟨fr 194 [(0, .own 2 0), (1, .d (.l (us (ln V)))), (2, .d (i64 i)), (7, .d (i64 k)), (9, .d (u64 g)), (15, .d (u32 (car D V j))), (157, .d (.l (us (ln V)))), (158, .d (i64 k)), (159, .d (i64 j))], [b0, b1, .row 0 171 1 4 (us (dl m (mix (R % 4294967296 ^ i + D * 4294967296 ^ i) (D + V) i j))), b3, b4, b5]⟩
theorem digit6 (b0 b1 b3 b4 b5 : B) {m R V i k s g D : Nat} (h : Dg m R V i k s) {c : Code} (hc : Tryz.f300.body = some c) (K : Ex → St → Prop) :
    goL Tryz.prog tbl (fun t => false) (((fl c).drop 11).take 3) (dg6 b0 b1 b3 b4 b5 m R V i k g D ())
      (lpX (fun st' => ∃ j : Nat, j = k ∧ Weak st' (dg5 b0 b1 b3 b4 b5 m R V i k D g j)) K) := by
  have lv := h.lv
  have hk := h.hk
  have hm := h.hm
  have hms := h.hms
  cases hc
  conv => whnf
  refine loop_intro (fun t => false) (dg5 b0 b1 b3 b4 b5 m R V i k D g) (fun j => j ≤ k) (fun j => k - j) 0 mixed tOk (Nat.zero_le _) ?_ ?_
  · refine weak_x ⟨eqBP_refl _, eqBP_refl _, ⟨rfl, rfl, rfl, rfl, ?_⟩, eqBP_refl _, eqBP_refl _, eqBP_refl _, trivial⟩ ⟨trivial, rfl, rfl, rfl, rfl, ?_, rfl, ?_, rfl, trivial⟩
    · rw [mix_zero]
    · conv => whnf
      simp [car, Nat.mod_one]
    · conv => whnf
      rw [h.lv]
  · intro j hj
    have hru : (us (dl m (mix (R % 4294967296 ^ i + D * 4294967296 ^ i) (D + V) i j))).length = m := by rw [us_length, dl_length]
    have hu := mlt (D / 4294967296 ^ j)
    have hv := mlt (V / 4294967296 ^ j)
    have hca := car_le D V j
    obtain ⟨c1, c2⟩ := car_step D V j
    have hU : (us (dl m (mix (R % 4294967296 ^ i + D * 4294967296 ^ i) (D + V) i j)))[i + j]? = some (u32 ((D / 4294967296 ^ j % 4294967296 : Nat) : Int)) := by
      have := us_get (dl_get (m := m) (mix (R % 4294967296 ^ i + D * 4294967296 ^ i) (D + V) i j) (i := i + j) (by omega))
      rwa [mix_get, back_dig] at this
    conv => whnf
    refine cond_d (fun h2 => ?_) (fun h2 => ?_)
    · conv => whnf
      refine idx_intro _ (h.W j _ (by omega) (by omega)) (by omega) (us_uni _) ?_
      conv => whnf
      refine sd_d (by omega) ?_
      conv => whnf
      refine sd_d (by omega) ?_
      conv => whnf
      refine sd_du (by omega) (us_uni _) ?_
      conv => whnf
      refine rld_intro (i := i + j) (r := 0) _ _ hU (by omega) (by omega) (us_uni _) rfl ?_
      conv => whnf
      refine call_data rfl rfl (add32_c ((D / 4294967296 ^ j % 4294967296 : Nat) : Int) ((V / 4294967296 ^ j % 4294967296 : Nat) : Int) (car D V j : Nat) (by omega) (by omega) (by omega)) ?_
      conv => whnf
      refine sd_du (by omega) (us_uni _) ?_
      conv => whnf
      have a1 : (((D / 4294967296 ^ j % 4294967296 : Nat) : Int) + ((V / 4294967296 ^ j % 4294967296 : Nat) : Int) + (car D V j : Nat)) % 4294967296 = (((D + V) / 4294967296 ^ j % 4294967296 : Nat) : Int) := by rw [← c1]; omega
      have a2 : (((D / 4294967296 ^ j % 4294967296 : Nat) : Int) + ((V / 4294967296 ^ j % 4294967296 : Nat) : Int) + (car D V j : Nat)) / 4294967296 = ((car D V (j + 1) : Nat) : Int) := by rw [← c2]; omega
      rw [show ((i : Int) + (j : Int)).toNat = i + j by omega, a1]
      refine rst_one (by omega) (us_val _) rfl ?_
      conv => whnf
      refine sd_d (by omega) ?_
      conv => whnf
      refine ⟨j + 1, by omega, by omega, ?_⟩
      refine weak_x ⟨eqBP_refl _, eqBP_refl _, ⟨rfl, rfl, rfl, rfl, ?_⟩, eqBP_refl _, eqBP_refl _, eqBP_refl _, trivial⟩ ⟨trivial, rfl, rfl, rfl, rfl, ?_, rfl, rfl, rfl, trivial⟩
      · rw [← mix_set, us_set]
      · conv => whnf
        rw [a2]
    · conv => whnf
      refine ⟨j, by omega, ?_⟩
      exact weak_x ⟨eqBP_refl _, eqBP_refl _, ⟨rfl, rfl, rfl, rfl, rfl⟩, eqBP_refl _, eqBP_refl _, eqBP_refl _, trivial⟩ ⟨trivial, rfl, rfl, rfl, rfl, rfl, rfl, rfl, rfl, trivial⟩
end Go.Nv
end
section
namespace Go.Nv
open Go.Proofs Nw
set_option maxRecDepth 100000
set_option linter.unusedVariables false
set_option linter.unusedSimpArgs false
def dg7 (b0 b1 b3 b4 b5 : B) (m Z q : Nat) (_ : Unit) : St := ⟨fr 194 [(6, .d (u32 q))], [b0, b1, .row 0 171 1 4 (us (dl m Z)), b3, b4, b5]⟩
theorem digit7 (b0 b1 b3 b4 b5 : B) {m R V i k s g D : Nat} (h : Dg m R V i k s) (hg : g < 4294967296) (hg2 : g = s / V + 1) (hD : D < 4294967296 ^ (k + 1)) (hD2 : (D + V) % 4294967296 ^ (k + 1) = s % V) {c : Code} (hc : Tryz.f300.body = some c) (K : Ex → St → Prop) :
    goL Tryz.prog tbl (fun t => false) (((fl c).drop 14).take 2) (dg5 b0 b1 b3 b4 b5 m R V i k D g k)
      (lpX (fun st' => ∃ u : Unit, True ∧ Weak st' (dg7 b0 b1 b3 b4 b5 m (R % 4294967296 ^ i + s % V * 4294967296 ^ i) (s / V) u)) K) := by
  have lv := h.lv
  have hk := h.hk
  have hm := h.hm
  have hms := h.hms
  have hru : (us (dl m (mix (R % 4294967296 ^ i + D * 4294967296 ^ i) (D + V) i k))).length = m := by rw [us_length, dl_length]
  have hu := mlt (D / 4294967296 ^ k)
  have hca := car_le D V k
  obtain ⟨c1, c2⟩ := car_step D V k
  have hVk : V / 4294967296 ^ k = 0 := Nat.div_eq_of_lt h.hV
  rw [hVk] at c1
  have hU : (us (dl m (mix (R % 4294967296 ^ i + D * 4294967296 ^ i) (D + V) i k)))[i + k]? = some (u32 ((D / 4294967296 ^ k % 4294967296 : Nat) : Int)) := by
    have := us_get (dl_get (m := m) (mix (R % 4294967296 ^ i + D * 4294967296 ^ i) (D + V) i k) (i := i + k) (by omega))
    rwa [mix_get, back_dig] at this
  have hend := back_end (R := R) (E := D + V) (i := i) hD
  rw [hD2] at hend
  have a1 : (((D / 4294967296 ^ k % 4294967296 : Nat) : Int) + (car D V k : Nat)) % 4294967296 = (((D + V) / 4294967296 ^ k % 4294967296 : Nat) : Int) := by rw [← c1]; omega
  have ag : ((g : Int) - 1) % 18446744073709551616 % 4294967296 = ((s / V : Nat) : Int) := by
    generalize s / V = q at *
    omega
  cases hc
  conv => whnf
  refine sd_d (by omega) ?_
  conv => whnf
  refine sd_du (by omega) (us_uni _) ?_
  conv => whnf
  refine rld_intro (i := i + k) (r := 0) _ _ hU (by omega) (by omega) (us_uni _) rfl ?_
  conv => whnf
  refine sd_du (by omega) (us_uni _) ?_
  conv => whnf
  rw [show ((i : Int) + (k : Int)).toNat = i + k by omega, a1]
  refine rst_one (by omega) (us_val _) rfl ?_
  conv => whnf
  refine ⟨(), trivial, ?_⟩
  refine weak_x ⟨eqBP_refl _, eqBP_refl _, ⟨rfl, rfl, rfl, rfl, ?_⟩, eqBP_refl _, eqBP_refl _, eqBP_refl _, trivial⟩ ⟨?_, trivial⟩
  · rw [← hend, ← mix_set, us_set]
  · conv => whnf
    rw [ag]
theorem digit_ok (b0 b1 b3 b4 b5 : B) {m R V i k s : Nat} (h : Dg m R V i k s) {c : Code} (hc : Tryz.f300.body = some c) (K : Ex → St → Prop)
    (hK : ∀ env, lk env 6 = .d (u32 (s / V : Nat)) → K .ret ⟨env, [b0, b1, .row 0 171 1 4 (us (dl m (R % 4294967296 ^ i + s % V * 4294967296 ^ i))), b3, b4, b5]⟩) :
    Ok Tryz.prog c ⟨fr 194 [(0, .own 2 0), (1, .d (.l (us (ln V)))), (2, .d (i64 i))], [b0, b1, .row 0 171 1 4 (us (dl m R)), b3, b4, b5]⟩ K := by
  refine ok_cut 4 (fun t => false) (fun p : Nat × Nat => dg1 b0 b1 b3 b4 b5 m R V i k p.1 p.2) (fun p => p.1 * (V / 4294967296 ^ (k - 1)) + p.2 = s / 4294967296 ^ (k - 1) ∧ s / V ≤ p.1) mixed tOk (by cases hc; decide) (digit1 b0 b1 b3 b4 b5 h hc K) fun p hp => ?_
  refine okL_cut 1 (fun t => false) (dg2 b0 b1 b3 b4 b5 m R V i k) (fun g => s / V ≤ g ∧ g ≤ s / V + 1 ∧ g < 4294967296) mixed tOk (by cases hc; decide) (digit2 b0 b1 b3 b4 b5 h hc K p hp) ?_
  rintro g ⟨hg1, hg2, hg3⟩
  rw [List.drop_drop]
  refine okL_cut 3 (fun t => false) (dg3 b0 b1 b3 b4 b5 m R V i k s g) (fun j => j = k) mixed tOk (by cases hc; decide) (digit3 b0 b1 b3 b4 b5 h hg3 hc K) ?_
  rintro j rfl
  rw [List.drop_drop]
  refine okL_cut 1 (fun t => false) (dg4 b0 b1 b3 b4 b5 m R V i j s g) (fun _ => True) mixed tOk (by cases hc; decide) (digit4 b0 b1 b3 b4 b5 h hg3 hc K) ?_
  rintro ⟨⟩ -
  rw [List.drop_drop]
  refine okL_cut 1 (fun t => false) (dg5a b0 b1 b3 b4 b5 m R V i j s g) _ mixed tOk (by cases hc; decide) (digit5a b0 b1 b3 b4 b5 hc K) ?_
  intro b hb
  rw [List.drop_drop]
  refine okL_cut 1 (fun t => false) (dg6 b0 b1 b3 b4 b5 m R V i j g (dD s j g V)) _ mixed tOk (by cases hc; decide) (digit5b b0 b1 b3 b4 b5 h hg3 hg1 hg2 hb hc K hK) ?_
  rintro ⟨⟩ ⟨e1, e2, e3⟩
  rw [List.drop_drop]
  refine okL_cut 3 (fun t => false) (dg5 b0 b1 b3 b4 b5 m R V i j (dD s j g V) g) (fun l => l = j) mixed tOk (by cases hc; decide) (digit6 b0 b1 b3 b4 b5 h hc K) ?_
  rintro l rfl
  rw [List.drop_drop]
  refine okL_cut 2 (fun t => false) (dg7 b0 b1 b3 b4 b5 m (R % 4294967296 ^ i + s % V * 4294967296 ^ i) (s / V)) (fun _ => True) mixed tOk (by cases hc; decide) (digit7 b0 b1 b3 b4 b5 h hg3 e1 e2 e3 hc K) ?_
  rintro ⟨⟩ -
  refine okL_go mixed tOk (mu := fun t => false) ?_
  cases hc
  conv => whnf
  exact hK _ rfl
end Go.Nv
end
section
namespace Go.Nv
open Go.Proofs Nw
set_option maxRecDepth 100000
set_option linter.unusedVariables false
set_option linter.unusedSimpArgs false
theorem norm_b {b : Nat} (hb : 0 < b) : 32 - blen (b / 4294967296 ^ ((ln b).length - 1) % 4294967296) ≤ 31 ∧ 2147483648 * 4294967296 ^ ((ln b).length - 1) ≤ b * 2 ^ (32 - blen (b / 4294967296 ^ ((ln b).length - 1) % 4294967296)) ∧ b * 2 ^ (32 - blen (b / 4294967296 ^ ((ln b).length - 1) % 4294967296)) < 4294967296 ^ (ln b).length := by
  have h1 := ln_low (a := b) (by omega)
  have h2 := ln_high b
  have hl0 : 0 < (ln b).length := by
    rcases Nat.eq_zero_or_pos (ln b).length with h | h
    · rw [h, Nat.pow_zero] at h2; omega
    · exact h
  generalize hL : (ln b).length = L at *
  have hp := bpos (L - 1)
  have e : 4294967296 ^ L = 4294967296 * 4294967296 ^ (L - 1) := by rw [← Nat.pow_succ']; congr 1; omega
  have ht1 : 1 ≤ b / 4294967296 ^ (L - 1) := (Nat.le_div_iff_mul_le hp).2 (by omega)
  have ht2 : b / 4294967296 ^ (L - 1) < 4294967296 := (Nat.div_lt_iff_lt_mul hp).2 (by omega)
  rw [Nat.mod_eq_of_lt ht2]
  have hd := Nat.div_add_mod b (4294967296 ^ (L - 1))
  have hm := Nat.mod_lt b hp
  generalize hT : b / 4294967296 ^ (L - 1) = t at *
  obtain ⟨l1, l2⟩ := blen_low (x := t) (by omega)
  have l3 := blen_le (x := t) (k := 32) ht2
  have l4 : 0 < blen t := by unfold blen; split <;> omega
  generalize hn : blen t = w at *
  have e1 : 2 ^ (w - 1) * 2 ^ (32 - w) = 2147483648 := by
    rw [← Nat.pow_add, show w - 1 + (32 - w) = 31 by omega]
  have e2 : 2 ^ w * 2 ^ (32 - w) = 4294967296 := by
    rw [← Nat.pow_add, show w + (32 - w) = 32 by omega]
  refine ⟨by omega, ?_, ?_⟩
  · have := Nat.mul_le_mul_right (2 ^ (32 - w)) (Nat.mul_le_mul_right (4294967296 ^ (L - 1)) l1)
    rw [Nat.mul_right_comm, e1] at this
    refine Nat.le_trans this (Nat.mul_le_mul_right _ ?_)
    rw [Nat.mul_comm]; omega
  · have h5 : b < 2 ^ w * 4294967296 ^ (L - 1) := by
      refine Nat.lt_of_lt_of_le ?_ (Nat.mul_le_mul_right _ (show t + 1 ≤ 2 ^ w from l2))
      rw [Nat.add_mul, Nat.one_mul, Nat.mul_comm t]
      omega
    have h6 := Nat.mul_lt_mul_of_pos_right h5 (Nat.pow_pos (n := 32 - w) (show 0 < 2 by omega))
    rw [Nat.mul_right_comm, e2] at h6
    omega
def dvSt (M la n V A x : Nat) (y : Int) : St := ⟨fr 73 [(4, .own 0 0), (5, .own 1 0), (8, .d (i64 n)), (9, .own 2 0), (10, .d (.l (us (ln V)))), (11, .own 4 0), (12, .d (i64 y))],
  [.row 0 171 1 4 [], .row 0 171 1 4 [], .row 0 171 1 4 (us (dl (la + 1) (A % (V * 4294967296 ^ x)))), .dead, .row 0 171 1 4 (us (dl M (A / (V * 4294967296 ^ x) * 4294967296 ^ x)))]⟩
structure Dv (a b M n V A : Nat) : Prop where
  hb : 0 < b
  ha : (ln a).length < 900000000000
  hab : b ≤ a
  hl2 : 2 ≤ (ln b).length
  hlab : (ln b).length ≤ (ln a).length
  hn : n ≤ 31
  hV1 : 2147483648 * 4294967296 ^ ((ln b).length - 1) ≤ V
  hV2 : V < 4294967296 ^ (ln b).length
  hlV : (ln V).length = (ln b).length
  hM : M = (ln a).length + 1 - (ln b).length
  hA : a * 2 ^ n = A
  hV : b * 2 ^ n = V
  hn' : 32 - blen (b / 4294967296 ^ ((ln b).length - 1) % 4294967296) = n
theorem dv_mk {a b : Nat} (hb : 0 < b) (ha : (ln a).length < 900000000000) (hab : b ≤ a) (hl2 : 2 ≤ (ln b).length) : ∃ M n V A, Dv a b M n V A := by
  obtain ⟨hn31, hV1, hV2⟩ := norm_b hb
  generalize hn : 32 - blen (b / 4294967296 ^ ((ln b).length - 1) % 4294967296) = n at *
  refine ⟨_, n, _, _, hb, ha, hab, hl2, ln_len_mono hab, hn31, hV1, hV2, ?_, rfl, rfl, rfl, hn⟩
  have h3 := ln_length_le hV2
  have h4 := ln_high (b * 2 ^ n)
  refine Nat.le_antisymm h3 ?_
  rcases Nat.lt_or_ge (ln (b * 2 ^ n)).length (ln b).length with h | h
  · have h5 : 4294967296 ^ (ln (b * 2 ^ n)).length ≤ 4294967296 ^ ((ln b).length - 1) := Nat.pow_le_pow_right (by omega) (by omega)
    have h6 := bpos ((ln b).length - 1)
    omega
  · exact h
section
variable {a b M n V A : Nat} (h : Dv a b M n V A)
include h
theorem Dv.V0 : 0 < V := by rw [← h.hV]; exact Nat.mul_pos h.hb (Nat.pow_pos (by omega))
theorem Dv.AM : A < V * 4294967296 ^ M := by
  have h6 := ln_high a
  have hl2 := h.hl2
  have hlab := h.hlab
  have hM := h.hM
  have h7 : A < 4294967296 ^ (ln a).length * 2147483648 := by
    rw [← h.hA]
    refine Nat.lt_of_lt_of_le (Nat.mul_lt_mul_of_pos_right h6 (Nat.pow_pos (by omega))) (Nat.mul_le_mul_left _ ?_)
    exact Nat.le_trans (Nat.pow_le_pow_right (by omega) h.hn) (by decide)
  have h8 := Nat.mul_le_mul_right (4294967296 ^ M) h.hV1
  have h9 : 4294967296 ^ ((ln b).length - 1) * 4294967296 ^ M = 4294967296 ^ (ln a).length := by
    rw [← Nat.pow_add]; congr 1; omega
  rw [Nat.mul_assoc, h9] at h8
  omega
end
theorem divide_c1 {a b M n V A : Nat} (h : Dv a b M n V A) {c : Code} (hc : Tryz.f228.body = some c) (K : Ex → St → Prop) :
    goL Tryz.prog tbl (fun t => false) ((fl c).take 9) (startX [.l (us (ln a)), .l (us (ln b))] 73) (lpX (fun st' => ∃ x : Unit, True ∧ Weak st' (dvSt M (ln a).length n V A M ((M : Int) - 1))) K) := by
  have la := us_length (ln a)
  have lb := us_length (ln b)
  obtain ⟨hb, ha, hab, hl2, hlab, hn, hV1, hV2, hlV, hM, hA, hV, hn'⟩ := id h
  have hAM := h.AM
  cases hc
  conv => whnf
  refine call_data rfl rfl (compare_c a b (by omega) (by omega)) ?_
  conv => whnf
  refine cond_df (by unfold cmpN; split <;> (try split) <;> omega) ?_
  conv => whnf
  refine cond_e (fun h2 => by omega) (fun h2 => ?_)
  conv => whnf
  refine sd_d (by omega) ?_
  conv => whnf
  refine idx_intro _ (by rw [show (((us (ln b)).length : Int) - 1).toNat = (ln b).length - 1 by omega]; exact ul_get (a := b) (i := (ln b).length - 1) (by omega)) (by omega) (us_uni _) ?_
  conv => whnf
  have htop := mlt (b / 4294967296 ^ ((ln b).length - 1))
  refine call_data rfl rfl (lz32_c _ htop) ?_
  conv => whnf
  rw [hn']
  refine call_fresh (bytes := 4) rfl rfl (shift_c a n hn (by omega)) ?_
  conv => whnf
  refine call_fresh (bytes := 4) rfl rfl (shift_c b n hn (by omega)) ?_
  conv => whnf
  refine call_frz 3 (call_eq rfl rfl (trim_c (dl ((ln b).length + 1) (b * 2 ^ n)) (lim_dl _ _) (by rw [dl_length]; omega)) rfl ?_)
  conv => whnf
  have hlvV : lv (dl ((ln b).length + 1) (b * 2 ^ n)) = b * 2 ^ n := by
    rw [lv_dl, Nat.mod_eq_of_lt]
    rw [hV]
    exact Nat.lt_trans hV2 (Nat.pow_lt_pow_right (by omega) (by omega))
  rw [hlvV, hV, hA]
  have lV := us_length (ln V)
  have lu := us_length (dl ((ln a).length + 1) A)
  rw [dl_length] at lu
  refine sd_d (by omega) ?_
  conv => whnf
  refine sd_d (by simp only [maxLen]; omega) ?_
  conv => whnf
  rw [show (((us (dl ((ln a).length + 1) A)).length : Int) - ((us (ln V)).length : Int)).toNat = M by omega, us_rep, ← dl_zero]
  have lq := us_length (dl M 0)
  rw [dl_length] at lq
  refine sd_d (by omega) ?_
  conv => whnf
  refine ⟨(), trivial, ?_⟩
  refine weak_r ?_ ?_ <;> repeat' (first | exact trivial | exact rfl | refine And.intro ?_ ?_)
  · rw [Nat.mod_eq_of_lt hAM]
  · rw [Nat.div_eq_of_lt hAM, Nat.zero_mul]
  · conv => whnf
    omega
theorem divide_c3 {a b M n V A : Nat} (h : Dv a b M n V A) {c : Code} (hc : Tryz.f228.body = some c) :
    OkL Tryz.prog ((fl c).drop 10) (dvSt M (ln a).length n V A 0 (-1)) (FinK tbl Tryz.f228.results.toList [.l (us (ln (a / b))), .l (us (ln (a % b)))]) := by
  obtain ⟨hb, ha, hab, hl2, hlab, hn, hV1, hV2, hlV, hM, hA, hV, hn'⟩ := id h
  have hV0 := h.V0
  refine okL_go mixed tOk (mu := fun t => false) ?_
  cases hc
  conv => whnf
  refine call_frz 4 (call_eq rfl rfl (trim_c (dl M (A / (V * 4294967296 ^ 0) * 4294967296 ^ 0)) (lim_dl _ _) (by rw [dl_length]; omega)) rfl ?_)
  conv => whnf
  refine call_frz 2 (call_eq rfl rfl (trim_c (dl ((ln a).length + 1) (A % (V * 4294967296 ^ 0))) (lim_dl _ _) (by rw [dl_length]; omega)) rfl ?_)
  conv => whnf
  have hR : A % V < 4294967296 ^ ((ln a).length + 1) := by
    refine Nat.lt_of_lt_of_le (Nat.lt_trans (Nat.mod_lt _ hV0) hV2) (Nat.pow_le_pow_right (by omega) (by omega))
  have hQ : A / V < 4294967296 ^ M := by
    have := h.AM
    exact (Nat.div_lt_iff_lt_mul hV0).2 (by rw [Nat.mul_comm]; exact this)
  have e1 : lv (dl ((ln a).length + 1) (A % (V * 4294967296 ^ 0))) = A % V := by
    rw [lv_dl, Nat.pow_zero, Nat.mul_one, Nat.mod_eq_of_lt hR]
  have e2 : lv (dl M (A / (V * 4294967296 ^ 0) * 4294967296 ^ 0)) = A / V := by
    rw [lv_dl, Nat.pow_zero, Nat.mul_one, Nat.mul_one, Nat.mod_eq_of_lt hQ]
  rw [e1, e2]
  have hlR : (ln (A % V)).length ≤ (ln b).length := by
    have h1 := ln_len_mono (Nat.le_of_lt (Nat.mod_lt A hV0))
    omega
  refine call_data rfl rfl (unshift_c (A % V) n hn (by omega)) ?_
  conv => whnf
  have e3 : A % V / 2 ^ n = a % b := by
    rw [← hA, ← hV, Nat.mul_mod_mul_right, Nat.mul_div_cancel _ (Nat.pow_pos (by omega))]
  have e4 : A / V = a / b := by
    rw [← hA, ← hV, Nat.mul_div_mul_right _ _ (Nat.pow_pos (by omega))]
  rw [e3, e4]
  refine ⟨?_, ?_⟩
  · conv => whnf
  · conv => whnf
    refine ⟨?_, trivial⟩
    conv => whnf
end Go.Nv
end
section
namespace Go.Nv
open Go.Proofs Nw
set_option maxRecDepth 100000
set_option linter.unusedVariables false
set_option linter.unusedSimpArgs false
theorem inlK_tmp {T : Tb} {r k : Nat} {dst : Option Tmp} {K : St → Prop} {st : St} {s : S} {cs : List S} (h : lk st.env r = s) (hg : tatX st.t k = .ghost cs) (hk : frc ⟨putx cs dst s, tputX st.t k .dead⟩ K) : inlK T [.tmp r] k dst K .ret st := by
  subst h
  unfold inlK
  simp only [resSL, resSx, hg]
  exact hk
theorem digit_call (b0 b1 b3 b4 : B) {m R V i k s : Nat} (h : Dg m R V i k s) {env : List S} {x y z : Tmp} {dst : Option Tmp} {K : St → Prop}
    (h1 : lk env x = .own 2 0) (h2 : lk env y = .d (.l (us (ln V)))) {y' : Int} (h3 : lk env z = .d (i64 y')) (hy : y' = i)
    (hK : frc ⟨putx env dst (.d (u32 (s / V : Nat))), [b0, b1, .row 0 171 1 4 (us (dl m (R % 4294967296 ^ i + s % V * 4294967296 ^ i))), b3, b4, .dead]⟩ K) :
    CallK Tryz.prog (.func 300) [.tmp x, .tmp y, .tmp z] dst ⟨env, [b0, b1, .row 0 171 1 4 (us (dl m R)), b3, b4]⟩ K := by
  subst hy
  refine call_inl_ok mixed tOk (g := 300) (cap := []) (fn := Tryz.f300) (c := _) rfl rfl rfl rfl ?_
  have e : mapX (evx (⟨env, [b0, b1, .row 0 171 1 4 (us (dl m R)), b3, b4]⟩ : St).env) [Operand.tmp x, .tmp y, .tmp z] = [.own 2 0, .d (.l (us (ln V))), .d (i64 i)] := by
    simp [mapX, evx, h1, h2, h3]
  rw [e]
  refine digit_ok b0 b1 b3 b4 (.ghost env) h rfl _ (fun env' h6 => ?_)
  refine inlK_tmp h6 rfl ?_
  exact hK
theorem divide_c2 {a b M n V A : Nat} (h : Dv a b M n V A) {c : Code} (hc : Tryz.f228.body = some c) (K : Ex → St → Prop) :
    goL Tryz.prog tbl (fun t => false) (((fl c).drop 9).take 1) (dvSt M (ln a).length n V A M ((M : Int) - 1)) (lpX (fun st' => ∃ x : Unit, True ∧ Weak st' (dvSt M (ln a).length n V A 0 (-1))) K) := by
  obtain ⟨hb, ha, hab, hl2, hlab, hn, hV1, hV2, hlV, hM, hA, hV, hn'⟩ := id h
  have hV0 := h.V0
  cases hc
  conv => whnf
  refine loop_intro (fun t => false) (fun x : Nat => dvSt M (ln a).length n V A x ((x : Int) - 1)) (fun x => x ≤ M) (fun x => x) M mixed tOk (Nat.le_refl _) ?_ ?_
  conv => whnf
  · refine weak_r ?_ ?_ <;> repeat' (first | exact trivial | exact rfl | refine And.intro ?_ ?_)
  · intro x hx
    rcases Nat.eq_zero_or_pos x with rfl | hx0
    · conv => whnf
      refine cond_df (by omega) ?_
      conv => whnf
      refine ⟨(), trivial, ?_⟩
      refine weak_r ?_ ?_ <;> repeat' (first | exact trivial | exact rfl | refine And.intro ?_ ?_)
    · obtain ⟨i, hi⟩ : ∃ i, x = i + 1 := ⟨x - 1, by omega⟩
      conv => whnf
      refine cond_dt (by omega) ?_
      conv => whnf
      have hdg : Dg ((ln a).length + 1) (A % (V * 4294967296 ^ x)) V i (ln b).length (A % (V * 4294967296 ^ x) / 4294967296 ^ i) := by
        subst hi
        exact ⟨hl2, by omega, by omega, hV2, hV1, hlV, rfl, long_lt hV0⟩
      refine digit_call _ _ _ _ hdg rfl rfl rfl (by omega) ?_
      conv => whnf
      have lq := us_length (dl M (A / (V * 4294967296 ^ x) * 4294967296 ^ x))
      rw [dl_length] at lq
      refine sd_du (by omega) (us_uni _) ?_
      conv => whnf
      refine rst_one (by omega) (us_val _) rfl ?_
      conv => whnf
      refine sd_d (by omega) ?_
      conv => whnf
      refine ⟨i, by omega, by omega, ?_⟩
      refine weak_r ?_ ?_ <;> repeat' (first | exact trivial | exact rfl | refine And.intro ?_ ?_)
      · rw [hi, long_r]
      · rw [show ((x : Int) - 1).toNat = i by omega, us_set, hi, long_q, dl_top (Nat.mod_lt _ (by omega))]
        congr 3
        rw [Nat.pow_succ, ← Nat.mul_assoc, ← Nat.div_div_eq_div_mul, Nat.mul_comm, Nat.div_add_mod]
      · conv => whnf
        omega
theorem divide_c (a b : Nat) (hb : 0 < b) (ha : (ln a).length < 900000000000) (hbs : (ln b).length < 900000000000) : Fun Tryz.prog 228 [.l (us (ln a)), .l (us (ln b))] [.l (us (ln (a / b))), .l (us (ln (a % b)))] := by
  have la := us_length (ln a)
  have lb := us_length (ln b)
  rcases Nat.lt_or_ge a b with hab | hab
  · refine fun_of_go (fun t => false) mixed tOk Tryz.func228 rfl rfl ?_
    conv => whnf
    refine call_data rfl rfl (compare_c a b (by omega) (by omega)) ?_
    conv => whnf
    refine cond_dt (by unfold cmpN; rw [if_pos hab]; omega) ?_
    conv => whnf
    rw [Nat.div_eq_of_lt hab, Nat.mod_eq_of_lt hab]
    refine ⟨?_, ?_⟩
    · conv => whnf
      rw [ln_zero]
      unfold us; rfl
    · conv => whnf
      refine ⟨?_, trivial⟩
      conv => whnf
  rcases Nat.lt_or_ge 1 (ln b).length with hl | hl
  · obtain ⟨M, n, V, A, h⟩ := dv_mk hb ha hab hl
    refine fun_of_okX mixed tOk (fn := Tryz.f228) (c := _) rfl rfl rfl ?_
    refine ok_cut 9 (fun t => false) (fun _ : Unit => dvSt M (ln a).length n V A M ((M : Int) - 1)) (fun _ => True) mixed tOk (by decide) (divide_c1 h rfl _) fun _ _ => ?_
    refine okL_cut 1 (fun t => false) (fun _ : Unit => dvSt M (ln a).length n V A 0 (-1)) (fun _ => True) mixed tOk (by decide) (divide_c2 h rfl _) fun _ _ => ?_
    rw [List.drop_drop]
    exact divide_c3 h rfl
  · have hl1 : (ln b).length = 1 := by
      rcases Nat.eq_zero_or_pos (ln b).length with h | h
      · have := ln_high b
        rw [h, Nat.pow_zero] at this
        omega
      · omega
    have hb1 : b < 4294967296 := by
      have := ln_high b
      rw [hl1, Nat.pow_one] at this
      exact this
    have hU : (us (ln b))[0]? = some (u32 (b : Int)) := by
      have := ul_get (a := b) (i := 0) (by omega)
      rwa [Nat.pow_zero, Nat.div_one, Nat.mod_eq_of_lt hb1] at this
    have hr32 : a % b < 4294967296 := Nat.lt_trans (Nat.mod_lt _ hb) hb1
    refine fun_of_go (fun t => false) mixed tOk Tryz.func228 rfl rfl ?_
    conv => whnf
    refine call_data rfl rfl (compare_c a b (by omega) (by omega)) ?_
    conv => whnf
    refine cond_df (by unfold cmpN; split <;> (try split) <;> omega) ?_
    conv => whnf
    refine cond_e (fun h2 => ?_) (fun h2 => by omega)
    conv => whnf
    refine idx_intro _ hU (by omega) (us_uni _) ?_
    conv => whnf
    refine call_data rfl rfl (short_c a b hb hb1 (by omega)) ?_
    conv => whnf
    refine call_eq rfl rfl (trim_c [a % b] (by intro x hx; simp at hx; omega) (by simp)) (by unfold us; rfl) ?_
    conv => whnf
    have hlv : lv [a % b] = a % b := by simp [lv]
    rw [hlv]
    refine ⟨?_, ?_⟩
    · conv => whnf
    · conv => whnf
      refine ⟨?_, trivial⟩
      conv => whnf
end Go.Nv
end
section
namespace Go.Nv
open Go.Proofs Nw
set_option maxRecDepth 100000
set_option linter.unusedVariables false
set_option linter.unusedSimpArgs false
def gcSt (n m : Bool) (s t : ByteArray) (x y : Nat) : St := ⟨fr 28 [(4, .ptr 0 0 0), (5, .d (.l (us (ln x)))), (6, .d (.l (us (ln y))))], [.box 99 [.d (.v (.bool false)), .d (.v (.string ⟨#[]⟩))]]⟩
theorem gcd_c (n m : Bool) (s t : ByteArray) (hs : s.size < 500000000000) (ht : t.size < 500000000000) : Fun Tryz.prog 135 [intD n s, intD m t] [zD (Nat.gcd (bv s) (bv t) : Nat)] := by
  have h1 := ln_size s (by omega)
  have h2 := ln_size t (by omega)
  refine fun_of_go (fun t => t == 4) mixed tOk Tryz.func135 rfl rfl ?_
  conv => whnf
  refine callv_data (load_c s (by omega)) ?_
  conv => whnf
  refine callv_data (load_c t (by omega)) ?_
  conv => whnf
  refine safe_intro (by kernel_rfl) ?_
  conv => whnf
  refine loop_intro (fun t => t == 4) (fun p : Nat × Nat => gcSt n m s t p.1 p.2) (fun p => Nat.gcd p.1 p.2 = Nat.gcd (bv s) (bv t) ∧ (ln p.1).length < 500000000000 ∧ (ln p.2).length < 500000000000) (fun p => p.2) (bv s, bv t) mixed tOk ⟨rfl, by show (ln (bv s)).length < _; omega, by show (ln (bv t)).length < _; omega⟩ ?_ ?_
  conv => whnf
  · refine weak_r ?_ ?_ <;> repeat' (first | exact trivial | exact rfl | refine And.intro ?_ ?_)
  · rintro ⟨x, y⟩ ⟨e, hx, hy⟩
    simp only at e hx hy
    have ly := us_length (ln y)
    conv => whnf
    refine cond_d (fun h3 => ?_) (fun h3 => ?_)
    · conv => whnf
      have hy0 : 0 < y := by
        rcases Nat.eq_zero_or_pos y with h | h
        · subst h; simp [ln_zero, us] at h3
        · exact h
      refine call_data rfl rfl (divide_c x y hy0 (by omega) (by omega)) ?_
      conv => whnf
      refine ⟨(y, x % y), ⟨?_, by omega, ?_⟩, Nat.mod_lt _ hy0, ?_⟩
      · rw [← e]; exact (Nat.gcd_comm _ _).trans (by rw [Nat.gcd_comm x y, Nat.gcd_rec y x, Nat.gcd_comm])
      · have := ln_len_mono (Nat.le_of_lt (Nat.mod_lt x hy0)); show (ln (x % y)).length < _; omega
      · refine weak_r ?_ ?_ <;> repeat' (first | exact trivial | exact rfl | refine And.intro ?_ ?_)
    · conv => whnf
      have h3 : ¬ ((us (ln y)).length : Int) > 0 := h3
      have hy0 : y = 0 := ln_len_eq_zero.1 (by omega)
      subst hy0
      refine call_data rfl rfl (pack_ln false x (by show (ln x).length < _; omega)) ?_
      conv => whnf
      have e2 : sg false x = ((Nat.gcd (bv s) (bv t) : Nat) : Int) := by rw [← e]; simp [sg]
      rw [e2]
      refine ⟨?_, trivial⟩
      conv => whnf
      exact ⟨rfl, rfl, trivial⟩
theorem fdiv_uniq {a b q r : Int} (h : a = b * q + r) (hr : 0 ≤ r ∧ r < b ∨ b < r ∧ r ≤ 0) : Int.fdiv a b = q ∧ Int.fmod a b = r := by
  have key : ∀ {a b q r : Int}, a = b * q + r → 0 ≤ r → r < b → Int.fdiv a b = q := fun {a b q r} h h1 h2 => by
    rw [Int.fdiv_eq_ediv_of_nonneg _ (by omega)]
    exact (Int.ediv_eq_iff_of_pos (by omega)).2 ⟨by rw [Int.mul_comm]; omega, by rw [Int.mul_comm q b]; omega⟩
  have hq : Int.fdiv a b = q := by
    rcases hr with ⟨h1, h2⟩ | ⟨h1, h2⟩
    · exact key h h1 h2
    · rw [← Int.neg_fdiv_neg]
      exact key (r := -r) (by rw [h, Int.neg_add, Int.neg_mul]) (by omega) (by omega)
  refine ⟨hq, ?_⟩
  have := Int.mul_fdiv_add_fmod a b
  rw [hq] at this
  omega
theorem fdiv_same (n : Bool) (A B : Nat) (hB : B ≠ 0) : Int.fdiv (sg n A) (sg n B) = sg false (A / B) ∧ Int.fmod (sg n A) (sg n B) = sg n (A % B) := by
  have h1 := Nat.div_add_mod A B
  have h2 := Nat.mod_lt A (Nat.pos_of_ne_zero hB)
  have h3 : ((B * (A / B) : Nat) : Int) = (B : Int) * ((A / B : Nat) : Int) := Int.natCast_mul _ _
  generalize A / B = q at *
  generalize A % B = r at *
  refine fdiv_uniq ?_ ?_
  · unfold sg
    cases n <;> simp only [Bool.false_eq_true, if_false, if_true, Int.neg_mul] <;> omega
  · unfold sg
    cases n <;> simp only [Bool.false_eq_true, if_false, if_true] <;> omega
theorem fdiv_diff0 (n m : Bool) (hnm : n ≠ m) (A B : Nat) (hB : B ≠ 0) (hr : A % B = 0) : Int.fdiv (sg n A) (sg m B) = sg true (A / B) ∧ Int.fmod (sg n A) (sg m B) = 0 := by
  have h1 := Nat.div_add_mod A B
  have h3 : ((B * (A / B) : Nat) : Int) = (B : Int) * ((A / B : Nat) : Int) := Int.natCast_mul _ _
  generalize A / B = q at *
  rw [hr] at h1
  refine fdiv_uniq ?_ ?_
  · unfold sg
    cases n <;> cases m <;> simp at hnm <;> simp only [Bool.false_eq_true, if_false, if_true, Int.neg_mul, Int.mul_neg] <;> omega
  · unfold sg
    cases n <;> cases m <;> simp at hnm <;> simp only [Bool.false_eq_true, if_false, if_true] <;> omega
theorem fdiv_diff (n m : Bool) (hnm : n ≠ m) (A B : Nat) (hB : B ≠ 0) (hr : A % B ≠ 0) : Int.fdiv (sg n A) (sg m B) = sg true (A / B) - 1 ∧ Int.fmod (sg n A) (sg m B) = sg n (A % B) + sg m B := by
  have h1 := Nat.div_add_mod A B
  have h2 := Nat.mod_lt A (Nat.pos_of_ne_zero hB)
  have h3 : ((B * (A / B) : Nat) : Int) = (B : Int) * ((A / B : Nat) : Int) := Int.natCast_mul _ _
  generalize A / B = q at *
  generalize A % B = r at *
  refine fdiv_uniq ?_ ?_
  · unfold sg
    cases n <;> cases m <;> simp at hnm <;> simp only [Bool.false_eq_true, if_false, if_true, Int.neg_mul, Int.mul_neg, Int.mul_sub] <;> omega
  · unfold sg
    cases n <;> cases m <;> simp at hnm <;> simp only [Bool.false_eq_true, if_false, if_true] <;> omega
theorem sg_z (z : Int) : sg (ng z) (bv (nb z.natAbs)) = z := by
  rw [ng_eq, bv_nb]
  unfold sg
  by_cases h : z < 0 <;> simp [h] <;> omega
theorem nb_sz {a k : Nat} (h : a < 256 ^ k) : (nb a).size ≤ k := by rw [nb_size]; exact nbl_length_le h
theorem div_c (n m : Bool) (s t : ByteArray) (hs : s.size < 500000000000) (ht : t.size < 500000000000) (h0 : bv t ≠ 0) :
    Fun Tryz.prog 136 [intD n s, intD m t] [zD (Int.fdiv (sg n (bv s)) (sg m (bv t))), zD (Int.fmod (sg n (bv s)) (sg m (bv t))), i64 0] := by
  have h1 := ln_size s (by omega)
  have h2 := ln_size t (by omega)
  have lt := us_length (ln (bv t))
  have ht0 : (ln (bv t)).length ≠ 0 := fun h => h0 (ln_len_eq_zero.1 h)
  refine fun_of_go (fun t => t == 4 || t == 5 || t == 10 || t == 11) mixed tOk Tryz.func136 rfl rfl ?_
  conv => whnf
  refine call_data rfl rfl (load_c t (by omega)) ?_
  conv => whnf
  refine cond_e (fun h => by omega) (fun h => ?_)
  conv => whnf
  refine call_data rfl rfl (load_c s (by omega)) ?_
  conv => whnf
  have hq := ln_len_mono (Nat.div_le_self (bv s) (bv t))
  have hr := ln_len_mono (Nat.mod_le (bv s) (bv t))
  refine call_data rfl rfl (divide_c _ _ (by omega) (by omega) (by omega)) ?_
  conv => whnf
  refine callv_data (pack_ln _ _ (by omega)) ?_
  conv => whnf
  refine callv_data (pack_ln n _ (by omega)) ?_
  conv => whnf
  refine safe_intro (by kernel_rfl) ?_
  conv => whnf
  have hA : bv s < 256 ^ s.size := bvl_lt _
  have hq' : (sg (n != m) (bv s / bv t)).natAbs < 256 ^ s.size := by rw [sg_abs]; exact Nat.lt_of_le_of_lt (Nat.div_le_self _ _) hA
  have hr' : (sg n (bv s % bv t)).natAbs < 256 ^ s.size := by rw [sg_abs]; exact Nat.lt_of_le_of_lt (Nat.mod_le _ _) hA
  have sq := nb_sz hq'
  have sr := nb_sz hr'
  generalize hz : sg (n != m) (bv s / bv t) = z at *
  generalize hy : sg n (bv s % bv t) = y at *
  refine cond_b (fun h5 => ?_) (fun h5 => ?_)
  · conv => whnf
    have hr0 : bv s % bv t ≠ 0 := by
      intro h
      have hy0 : y = 0 := by rw [← hy, h]; cases n <;> rfl
      rw [hy0, show (0 : Int).natAbs = 0 from rfl, nb_zero, byt_beq] at h5
      simp [emp] at h5
    refine cond_b (fun h6 => ?_) (fun h6 => ?_)
    · conv => whnf
      refine callv_data (of_c 1 (by omega)) ?_
      conv => whnf
      refine callv_data (sub_c _ _ _ _ (by have e : sg (bz (!(n == m))) (bv s / bv t) = z := by { rw [bz_eq]; exact hz }; rw [e]; omega) (by decide)) ?_
      conv => whnf
      refine callv_data (add_c _ _ _ _ (by omega) ht) ?_
      conv => whnf
      refine safe_intro (by kernel_rfl) ?_
      conv => whnf
      refine safe_intro (by kernel_rfl) ?_
      conv => whnf
      obtain ⟨e1, e2⟩ := fdiv_diff n m (by simpa using h6) (bv s) (bv t) h0 hr0
      have e3 : sg (bz (!(n == m))) (bv s / bv t) = sg true (bv s / bv t) := by rw [bz_eq, h6]
      rw [e3, e1, e2, sg_z, sg_z, sg_z, ← hy]
      exact ⟨⟨rfl, rfl, trivial⟩, ⟨rfl, rfl, trivial⟩, rfl, trivial⟩
    · conv => whnf
      refine safe_intro (by kernel_rfl) ?_
      conv => whnf
      have hnm : n = m := by simpa using h6
      obtain ⟨e1, e2⟩ := fdiv_same n (bv s) (bv t) h0
      have e3 : sg (bz (!(n == m))) (bv s / bv t) = sg false (bv s / bv t) := by rw [bz_eq, h6]
      subst hnm
      rw [e3, e1, e2, ← hy]
      exact ⟨⟨rfl, rfl, trivial⟩, ⟨rfl, rfl, trivial⟩, rfl, trivial⟩
  · conv => whnf
    refine safe_intro (by kernel_rfl) ?_
    conv => whnf
    have hr0 : bv s % bv t = 0 := by
      have h7 : nb y.natAbs = emp := by
        have : (nb y.natAbs == (⟨#[]⟩ : ByteArray)) = true := by simpa using h5
        rw [byt_beq] at this
        exact of_decide_eq_true this
      have := nb_eq_emp.1 h7
      rw [← hy, sg_abs] at this
      exact this
    have hy0 : y = 0 := by rw [← hy, hr0]; cases n <;> rfl
    have e : Int.fdiv (sg n (bv s)) (sg m (bv t)) = sg (bz (!(n == m))) (bv s / bv t) ∧ Int.fmod (sg n (bv s)) (sg m (bv t)) = 0 := by
      rw [bz_eq]
      by_cases hnm : n = m
      · subst hnm
        obtain ⟨e1, e2⟩ := fdiv_same n (bv s) (bv t) h0
        rw [e1, e2, hr0]
        refine ⟨by simp, by cases n <;> rfl⟩
      · obtain ⟨e1, e2⟩ := fdiv_diff0 n m hnm (bv s) (bv t) h0 hr0
        refine ⟨?_, e2⟩
        rw [e1, show (n == m) = false by simpa using hnm]; rfl
    rw [e.1, e.2, hy0]
    exact ⟨⟨rfl, rfl, trivial⟩, ⟨rfl, rfl, trivial⟩, rfl, trivial⟩
end Go.Nv
end
