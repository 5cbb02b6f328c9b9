import Derived.Test.YtdjbkccoofcnjaaGreatNvC1
import Derived.Test.YtdjbkccoofcnjaaGreatNvP1
set_option linter.all false
set_option linter.unusedVariables false
set_option linter.unusedSimpArgs false
section
namespace Go.Nv
open Go.Proofs Nw
set_option maxRecDepth 100000
set_option linter.unusedVariables false
set_option linter.unusedSimpArgs false
abbrev u64 (n : Int) : D := .v (.int .u64 n)
theorem times_c (a b : Nat) (ha : (ln a).length < 1000000000000) (hb : (ln b).length < 1000000000000) : Fun Tryz.prog 144 [.l (us (ln a)), .l (us (ln b))] [.l (us (ln (a * b)))] := by
  have la := us_length (ln a)
  have lb := us_length (ln b)
  generalize hm : (ln a).length + (ln b).length = m
  refine fun_of_go (fun t => false) mixed tOk Tryz.func144 rfl rfl ?_
  conv => whnf
  refine sd_d (by omega) ?_
  conv => whnf
  refine sd_d (by simp only [maxLen]; omega) ?_
  conv => whnf
  refine loop_intro (fun t => false) (fun i : Nat => ⟨fr 67 [(1, .d (.l (us (ln b)))), (4, .own 0 0), (5, .own 1 0), (17, .d (.l (us (ln a)))), (18, .d (i64 (us (ln a)).length)), (19, .d (i64 i))], [.row 0 171 1 4 [], .row 0 171 1 4 (us (dl m (a % 4294967296 ^ i * b)))]⟩) (fun i => i ≤ (ln a).length) (fun i => (ln a).length - i) 0 mixed tOk (Nat.zero_le _) ?_ ?_
  · refine weak_r ⟨⟨rfl, rfl, rfl, rfl, rfl⟩, ⟨rfl, rfl, rfl, rfl, ?_⟩, trivial⟩ ⟨rfl, trivial, trivial, rfl, rfl, rfl, trivial⟩
    rw [la, lb, us_rep, Nat.pow_zero, Nat.mod_one, Nat.zero_mul, dl_zero, ← hm]; rfl
  · intro i hi
    conv => whnf
    refine cond_d (fun h2 => ?_) (fun h2 => ?_) <;> conv => whnf
    · refine idx_intro _ (ul_get (a := a) (i := i) (by omega)) (by omega) (us_uni _) ?_
      conv => whnf
      have hx : a / 4294967296 ^ i % 4294967296 < 4294967296 := Nat.mod_lt _ (by omega)
      refine loop_intro (fun t => false) (fun k : Nat => ⟨fr 67 [(1, .d (.l (us (ln b)))), (4, .own 0 0), (5, .own 1 0), (6, .d (i64 i)), (7, .d (u32 (a / 4294967296 ^ i % 4294967296 : Nat))), (8, .d (u64 (tC (a % 4294967296 ^ i * b) (a / 4294967296 ^ i % 4294967296) b i k))), (17, .d (.l (us (ln a)))), (18, .d (i64 (us (ln a)).length)), (19, .d (i64 i)), (24, .d (.l (us (ln b)))), (25, .d (i64 (us (ln b)).length)), (26, .d (i64 k))], [.row 0 171 1 4 [], .row 0 171 1 4 (us (dl m (tR (a % 4294967296 ^ i * b) (a / 4294967296 ^ i % 4294967296) b i k)))]⟩) (fun k => k ≤ (ln b).length) (fun k => (ln b).length - k) 0 mixed tOk (Nat.zero_le _) ?_ ?_
      · refine weak_r ⟨⟨rfl, rfl, rfl, rfl, rfl⟩, ⟨rfl, rfl, rfl, rfl, ?_⟩, trivial⟩ ⟨rfl, trivial, trivial, rfl, rfl, ?_, rfl, rfl, rfl, rfl, rfl, rfl, trivial⟩
        · rw [tR_zero]
        · conv => whnf
          rw [tC_zero]; rfl
      · intro k hk
        conv => whnf
        generalize hT : a % 4294967296 ^ i * b = T
        generalize hX : a / 4294967296 ^ i % 4294967296 = x at hx ⊢
        have hcl := tC_lt (T := T) (b := b) (i := i) (k := k) hx
        have hrl := us_length (dl m (tR T x b i k))
        rw [dl_length] at hrl
        refine cond_d (fun h3 => ?_) (fun h3 => ?_) <;> conv => whnf
        · refine idx_intro _ (ul_get (a := b) (i := k) (by omega)) (by omega) (us_uni _) ?_
          conv => whnf
          refine sd_d (by omega) ?_
          conv => whnf
          have ei : (((i : Int) + k).toNat) = i + k := by omega
          refine sd_du (by omega) (us_uni _) ?_
          conv => whnf
          refine rld_intro (i := i + k) (r := 0) _ _ (us_get (dl_get (m := m) (tR T x b i k) (show i + k < m by omega))) (by rw [ei]; omega) (by omega) (us_uni _) rfl ?_
          conv => whnf
          refine sd_d (by omega) ?_
          conv => whnf
          refine sd_du (by omega) (us_uni _) ?_
          conv => whnf
          rw [ei, t_dig]
          refine rst_one (by omega) (us_val _) rfl ?_
          obtain ⟨s1, s2⟩ := t_step T x b i k
          have hy : b / 4294967296 ^ k % 4294967296 < 4294967296 := Nat.mod_lt _ (by omega)
          have ho : T / 4294967296 ^ (i + k) % 4294967296 < 4294967296 := Nat.mod_lt _ (by omega)
          have hxy : x * (b / 4294967296 ^ k % 4294967296) ≤ 4294967295 * 4294967295 := Nat.mul_le_mul (by omega) (by omega)
          generalize b / 4294967296 ^ k % 4294967296 = y at *
          generalize T / 4294967296 ^ (i + k) % 4294967296 = o at *
          have e1 : ((x : Int) % 18446744073709551616 * ((y : Int) % 18446744073709551616)) = ((x * y : Nat) : Int) := by
            rw [show (x : Int) % 18446744073709551616 = x by omega, show (y : Int) % 18446744073709551616 = y by omega]; push_cast; rfl
          have e2 : ((tC T x b i k : Nat) + ((x : Int) % 18446744073709551616 * ((y : Int) % 18446744073709551616) % 18446744073709551616 + (o : Int) % 18446744073709551616) % 18446744073709551616) % 18446744073709551616 = ((tC T x b i k + (x * y + o) : Nat) : Int) := by
            rw [e1]; omega
          rw [e2]
          conv => whnf
          refine sd_d (by omega) ?_
          conv => whnf
          refine sd_d (by omega) ?_
          conv => whnf
          refine ⟨k + 1, by omega, by omega, weak_r ⟨⟨rfl, rfl, rfl, rfl, rfl⟩, ⟨rfl, rfl, rfl, rfl, ?_⟩, trivial⟩ ⟨rfl, trivial, trivial, rfl, rfl, ?_, rfl, rfl, rfl, rfl, rfl, rfl, trivial⟩⟩
          · rw [s2, ← dl_set _ (Nat.mod_lt _ (by omega)), ← us_set]; rfl
          · conv => whnf
            rw [sh32, s1]
        · have hk2 : k = (ln b).length := by omega
          refine sd_d (by omega) ?_
          conv => whnf
          have ei : (((i : Int) + ((us (ln b)).length : Int)).toNat) = i + (ln b).length := by omega
          refine sd_du (by omega) (us_uni _) ?_
          conv => whnf
          rw [ei]
          refine rst_one (by omega) (us_val _) rfl ?_
          conv => whnf
          refine sd_d (by omega) ?_
          conv => whnf
          refine ⟨i + 1, by omega, by omega, weak_r ⟨⟨rfl, rfl, rfl, rfl, rfl⟩, ⟨rfl, rfl, rfl, rfl, ?_⟩, trivial⟩ ⟨rfl, trivial, trivial, rfl, rfl, rfl, trivial⟩⟩
          have := t_end (a := a) (i := i) (ln_high b)
          simp only [hT, hX] at this
          subst hk2
          rw [← this, ← dl_set _ hcl, ← us_set]
          congr 3
          omega
    · have hi2 : i = (ln a).length := by omega
      refine call_frz 1 (call_eq rfl rfl (trim_c (dl m (a % 4294967296 ^ i * b)) (lim_dl _ _) (by rw [dl_length]; omega)) rfl ?_)
      conv => whnf
      refine ⟨?_, trivial⟩
      conv => whnf
      have hA := ln_high a
      have hB := ln_high b
      have := Nat.mul_lt_mul'' hA hB
      rw [← Nat.pow_add, hm] at this
      rw [lv_dl, hi2, Nat.mod_eq_of_lt hA, Nat.mod_eq_of_lt this]
end Go.Nv
end
section
namespace Go.Nv
open Go.Proofs Nw
set_option maxRecDepth 100000
set_option linter.unusedVariables false
set_option linter.unusedSimpArgs false
def by8 (l : List UInt8) : List D := l.map fun b => .v (.int .u8 (b.toNat : Int))
theorem by8_length (l : List UInt8) : (by8 l).length = l.length := by simp [by8]
theorem by8_uni (l : List UInt8) : Uni 1 (by8 l) := by
  intro x hx
  simp only [by8, List.mem_map] at hx
  obtain ⟨n, _, rfl⟩ := hx
  rfl
theorem by8_all (l : List UInt8) : allU8B (by8 l) = true := by
  rw [allU8B_eq]
  intro x hx
  simp only [by8, List.mem_map] at hx
  obtain ⟨n, _, rfl⟩ := hx
  exact ⟨_, rfl⟩
theorem by8_str (l : List UInt8) : bytS (by8 l) = ⟨l.toArray⟩ := by
  unfold bytS by8
  congr 2
  rw [List.map_map]
  conv => rhs; rw [← List.map_id l]
  refine List.map_congr_left fun b _ => ?_
  simp
theorem by8_app (a b : List UInt8) : by8 a ++ by8 b = by8 (a ++ b) := by simp [by8]
theorem bv_by8 (l : List UInt8) : bv (bytS (by8 l)) = bvl l := by rw [by8_str]; rfl
attribute [irreducible] by8
theorem byte_of (n : Nat) : ((n : Int)) % 256 = ((UInt8.ofNat n).toNat : Int) := by simp
theorem shr32 (n k : Nat) (h : k ≤ 32) : Int.fdiv (n : Int) (2 ^ min ((k : Int).toNat) IntKind.u32.bits) = ((n / 2 ^ k : Nat) : Int) := by
  rw [Int.toNat_natCast, show min k IntKind.u32.bits = k from Nat.min_eq_left h]
  rw [Int.fdiv_eq_ediv_of_nonneg _ (by exact Int.le_of_lt (Int.pow_pos (by omega)))]
  push_cast; rfl
theorem uni4 (a b c d : Value) : Uni 1 [D.v a, D.v b, D.v c, D.v d] := by
  intro x hx; simp at hx; rcases hx with rfl | rfl | rfl | rfl <;> rfl
theorem store_c (a : Nat) (ha : (ln a).length < 1000000000000) : Fun Tryz.prog 227 [.l (us (ln a))] [.v (.string (nb a))] := by
  have la := us_length (ln a)
  refine fun_of_go (fun t => false) mixed tOk Tryz.func227 rfl rfl ?_
  conv => whnf
  refine sd_d (by omega) ?_
  conv => whnf
  refine loop_intro (fun t => false) (fun x : Nat × List UInt8 => ⟨fr 41 [(0, .d (.l (us (ln a)))), (3, .own 0 0), (4, .d (i64 ((x.1 : Int) - 1)))], [.row 0 5 1 1 (by8 x.2)]⟩) (fun x => x.1 ≤ (ln a).length ∧ x.2.length + 4 * x.1 = 4 * (ln a).length ∧ bvl x.2 = a / 4294967296 ^ x.1) (fun x => x.1) ((ln a).length, []) mixed tOk ⟨Nat.le_refl _, by simp, ?_⟩ ?_ ?_
  · rw [Nat.div_eq_of_lt (ln_high a)]; rfl
  · refine weak_r ⟨⟨rfl, rfl, rfl, rfl, ?_⟩, trivial⟩ ⟨rfl, trivial, ?_, trivial⟩
    · unfold by8; rfl
    · conv => whnf
      rw [la]
  · rintro ⟨k, l⟩ ⟨hk, hl, hv⟩
    simp only at hk hl hv ⊢
    conv => whnf
    have h8 := by8_length l
    refine cond_d (fun h2 => ?_) (fun h2 => ?_) <;> conv => whnf
    · obtain ⟨j, rfl⟩ : ∃ j, k = j + 1 := ⟨k - 1, by omega⟩
      have e1 : (((j + 1 : Nat) : Int) - 1).toNat = j := by omega
      have i1 : (us (ln a))[(((j + 1 : Nat) : Int) - 1).toNat]? = some (u32 ((a / 4294967296 ^ j % 4294967296 : Nat) : Int)) := by rw [e1]; exact ul_get (by omega)
      refine idx_intro _ i1 (by omega) (us_uni _) ?_
      conv => whnf
      refine sd_d (by omega) ?_
      conv => whnf
      refine idx_intro _ i1 (by omega) (us_uni _) ?_
      conv => whnf
      refine sd_d (by omega) ?_
      conv => whnf
      refine idx_intro _ i1 (by omega) (us_uni _) ?_
      conv => whnf
      refine sd_d (by omega) ?_
      conv => whnf
      refine idx_intro _ i1 (by omega) (us_uni _) ?_
      conv => whnf
      refine sd_app (by8_uni _) (uni4 _ _ _ _) (by simp only [maxLen, List.length_cons, List.length_nil]; omega) ?_
      conv => whnf
      refine safe_intro (by kernel_rfl) ?_
      conv => whnf
      refine sd_d (by omega) ?_
      conv => whnf
      generalize hx : a / 4294967296 ^ j % 4294967296 = x
      have hx2 : x < 4294967296 := by rw [← hx]; exact Nat.mod_lt _ (by omega)
      refine ⟨(j, l ++ [UInt8.ofNat (x / 2 ^ 24), UInt8.ofNat (x / 2 ^ 16), UInt8.ofNat (x / 2 ^ 8), UInt8.ofNat x]), ⟨by simp only; omega, by simp only [List.length_append, List.length_cons, List.length_nil]; omega, ?_⟩, by simp only; omega, ?_⟩
      · simp only
        rw [show l ++ [UInt8.ofNat (x / 2 ^ 24), UInt8.ofNat (x / 2 ^ 16), UInt8.ofNat (x / 2 ^ 8), UInt8.ofNat x] = (((l ++ [UInt8.ofNat (x / 2 ^ 24)]) ++ [UInt8.ofNat (x / 2 ^ 16)]) ++ [UInt8.ofNat (x / 2 ^ 8)]) ++ [UInt8.ofNat x] by simp]
        rw [bvl_snoc, bvl_snoc, bvl_snoc, bvl_snoc, hv, div_step a j, hx]
        simp only [UInt8.toNat_ofNat']
        omega
      · refine weak_r ⟨⟨rfl, rfl, rfl, rfl, ?_⟩, trivial⟩ ⟨rfl, trivial, ?_, trivial⟩
        · rw [← by8_app]
          congr 1
          have a1 := shr32 x 24 (by omega)
          have a2 := shr32 x 16 (by omega)
          have a3 := shr32 x 8 (by omega)
          unfold by8
          simp only [List.map_cons, List.map_nil, ← byte_of]
          rw [← a1, ← a2, ← a3]; rfl
        · conv => whnf
          omega
    · have hk0 : k = 0 := by omega
      subst hk0
      refine sd_intro (by8_all _) ?_
      conv => whnf
      refine call_data rfl rfl (strip_c _) ?_
      conv => whnf
      refine ⟨?_, trivial⟩
      conv => whnf
      rw [bv_by8, hv]; simp
end Go.Nv
end
section
namespace Go.Nv
open Go.Proofs Nw
set_option maxRecDepth 100000
set_option linter.unusedVariables false
set_option linter.unusedSimpArgs false
@[irreducible] def ng (z : Int) : Bool := decide (z < 0)
theorem ng_eq (z : Int) : ng z = decide (z < 0) := by unfold ng; rfl
abbrev intD (n : Bool) (s : ByteArray) : D := .a [.v (.bool n), .v (.string s)]
abbrev zD (z : Int) : D := .a [.v (.bool (ng z)), .v (.string (nb z.natAbs))]
def sg (n : Bool) (a : Nat) : Int := if n then -(a : Int) else a
theorem sg_abs (n : Bool) (a : Nat) : (sg n a).natAbs = a := by unfold sg; split <;> omega
theorem nb_ne {a : Nat} : (nb a == (⟨#[]⟩ : ByteArray)) = decide (a = 0) := by
  rw [byt_beq, Bool.eq_iff_iff, decide_eq_true_eq, decide_eq_true_eq]
  exact nb_eq_emp
theorem ng_sg (n : Bool) (a : Nat) : ng (sg n a) = (n && !(nb a == (⟨#[]⟩ : ByteArray))) := by
  rw [ng_eq, nb_ne]; unfold sg
  cases n <;> by_cases h : a = 0 <;> simp [h] <;> omega
theorem pack_c (n : Bool) (l : List Nat) (hl : Lim l) (hz : l.length < 1000000000000) : Fun Tryz.prog 133 [.v (.bool n), .l (us l)] [zD (sg n (lv l))] := by
  have hlen : (ln (lv l)).length < 1000000000000 := by
    have := ln_length_le (lv_lt hl); omega
  refine fun_of_go (fun t => false) mixed tOk Tryz.func133 rfl rfl ?_
  conv => whnf
  refine call_data rfl rfl (trim_c l hl (by omega)) ?_
  conv => whnf
  refine call_data rfl rfl (store_c _ hlen) ?_
  refine cond_intro (fun h => ?_) (fun h => ?_) <;> conv => whnf
  · refine ⟨⟨?_, ?_, trivial⟩, trivial⟩
    · conv => whnf
      rw [ng_sg, h, bz_eq]; rfl
    · conv => whnf
      rw [sg_abs]
  · refine ⟨⟨?_, ?_, trivial⟩, trivial⟩
    · conv => whnf
      rw [ng_sg, h]; rfl
    · conv => whnf
      rw [sg_abs]
theorem pack_ln (n : Bool) (a : Nat) (ha : (ln a).length < 1000000000000) : Fun Tryz.prog 133 [.v (.bool n), .l (us (ln a))] [zD (sg n a)] := by
  have := pack_c n (ln a) (lim_ln a) ha
  rwa [lv_ln] at this
theorem of_c (n : Int) (h : -9223372036854775808 ≤ n ∧ n ≤ 9223372036854775807) : Fun Tryz.prog 61 [i64 n] [zD n] := by
  refine fun_of_go (fun t => false) mixed tOk Tryz.func61 rfl rfl ?_
  conv => whnf
  have key : ∀ (z : Bool) (x y : Int), z = decide (n < 0) → x = ((n.natAbs % 4294967296 : Nat) : Int) → y = ((n.natAbs / 4294967296 : Nat) : Int) → Fun Tryz.prog 133 [.v (.bool z), .l [u32 x, u32 y]] [zD n] := by
    rintro z x y rfl rfl rfl
    have := pack_c (decide (n < 0)) [n.natAbs % 4294967296, n.natAbs / 4294967296] (by intro x hx; simp at hx; omega) (by simp)
    have e : sg (decide (n < 0)) (lv [n.natAbs % 4294967296, n.natAbs / 4294967296]) = n := by
      simp only [lv, sg, decide_eq_true_eq]; split <;> omega
    rw [e] at this
    unfold us at this
    exact this
  refine cond_d (fun h2 => ?_) (fun h2 => ?_) <;> conv => whnf
  · refine sd_d (by omega) ?_
    conv => whnf
    refine call_data rfl rfl (key _ _ _ (bz_eq _) ?_ ?_) ?_
    · omega
    · have := sh32 n.natAbs
      have e : (0 - n % 18446744073709551616) % 18446744073709551616 = (n.natAbs : Int) := by omega
      show Int.fdiv ((0 - n % 18446744073709551616) % 18446744073709551616) (2 ^ min (Int.toNat 32) IntKind.u64.bits) % 4294967296 = _
      rw [e, this]; omega
    · conv => whnf
      exact ⟨⟨rfl, rfl, trivial⟩, trivial⟩
  · refine sd_d (by omega) ?_
    conv => whnf
    refine call_data rfl rfl (key _ _ _ (bz_eq _) ?_ ?_) ?_
    · omega
    · have := sh32 n.natAbs
      have e : n % 18446744073709551616 = (n.natAbs : Int) := by omega
      show Int.fdiv (n % 18446744073709551616) (2 ^ min (Int.toNat 32) IntKind.u64.bits) % 4294967296 = _
      rw [e, this]; omega
    · conv => whnf
      exact ⟨⟨rfl, rfl, trivial⟩, trivial⟩
theorem ln_size (s : ByteArray) (h : s.size < 1000000000000) : (ln (bv s)).length ≤ (s.size + 3) / 4 := ln_len_bytes (bvl_lt _)
theorem neg_c (n : Bool) (s : ByteArray) (h : s.size < 1000000000000) : Fun Tryz.prog 132 [intD n s] [zD (-(sg n (bv s)))] := by
  have hs := ln_size s h
  refine fun_of_go (fun t => false) mixed tOk Tryz.func132 rfl rfl ?_
  conv => whnf
  refine callv_data (load_c s h) ?_
  conv => whnf
  refine callv_eq (pack_ln (!n) (bv s) (by omega)) (by simp only [bnot_eq]; rfl) ?_
  conv => whnf
  refine safe_intro (by kernel_rfl) ?_
  conv => whnf
  have e : sg (!n) (bv s) = -(sg n (bv s)) := by unfold sg; cases n <;> simp
  rw [e]
  exact ⟨⟨rfl, rfl, trivial⟩, trivial⟩
theorem mul_c (n m : Bool) (s t : ByteArray) (hs : s.size < 500000000000) (ht : t.size < 500000000000) : Fun Tryz.prog 68 [intD n s, intD m t] [zD (sg n (bv s) * sg m (bv t))] := by
  have h1 := ln_size s (by omega)
  have h2 := ln_size t (by omega)
  have h3 : (ln (bv s * bv t)).length ≤ (ln (bv s)).length + (ln (bv t)).length := ln_length_le (by rw [Nat.pow_add]; exact Nat.mul_lt_mul'' (ln_high _) (ln_high _))
  refine fun_of_go (fun t => false) mixed tOk Tryz.func68 rfl rfl ?_
  conv => whnf
  refine callv_data (load_c s (by omega)) ?_
  conv => whnf
  refine callv_data (load_c t (by omega)) ?_
  conv => whnf
  refine callv_data (times_c _ _ (by omega) (by omega)) ?_
  conv => whnf
  refine callv_eq (pack_ln (n != m) (bv s * bv t) (by omega)) (by simp only [bz_eq]; rfl) ?_
  conv => whnf
  refine safe_intro (by kernel_rfl) ?_
  conv => whnf
  have e : sg (n != m) (bv s * bv t) = sg n (bv s) * sg m (bv t) := by unfold sg; cases n <;> cases m <;> simp <;> push_cast <;> grind
  rw [e]
  exact ⟨⟨rfl, rfl, trivial⟩, trivial⟩
end Go.Nv
end
section
namespace Go.Nv
open Go.Proofs Nw
set_option maxRecDepth 100000
set_option linter.unusedVariables false
set_option linter.unusedSimpArgs false
theorem or_i64 (a b : Nat) (h : b < 256) (ha : a < 2 ^ 54) : IntKind.i64.wrap ((BitVec.ofInt 64 ((a : Int) * 256) ||| BitVec.ofInt 64 (b : Int)).toNat : Int) = ((a * 256 + b : Nat) : Int) := by
  have e1 : (BitVec.ofInt 64 ((a : Int) * 256)).toNat = a <<< 8 := by
    have e : ((a : Int) * 256) = ((a * 256 : Nat) : Int) := by omega
    rw [e, BitVec.ofInt_natCast, BitVec.toNat_ofNat, Nat.mod_eq_of_lt (by omega), Nat.shiftLeft_eq]
  have e2 : (BitVec.ofInt 64 (b : Int)).toNat = b := by
    rw [BitVec.ofInt_natCast, BitVec.toNat_ofNat, Nat.mod_eq_of_lt (by omega)]
  have e3 := Nat.shiftLeft_add_eq_or_of_lt (show b < 2 ^ 8 from h) a
  rw [BitVec.toNat_or, e1, e2, ← e3, Nat.shiftLeft_eq, wr_eq .i64 _ (by simp only [wrS]; omega)]
  rfl
def pre (s : ByteArray) (i : Nat) : Nat := bvl (s.data.toList.take i)
theorem pre_step (s : ByteArray) (i : Nat) (h : i < s.size) : bt s i = ((s.data.toList[i]'(by simpa using h)).toNat : Int) ∧ pre s (i + 1) = pre s i * 256 + (s.data.toList[i]'(by simpa using h)).toNat := by
  have hl : i < s.data.toList.length := by simpa using h
  constructor
  · unfold bt
    rw [dif_pos (show ((i : Int)).toNat < s.size by simpa using h)]
    rfl
  · unfold pre
    rw [List.take_succ_eq_append_getElem hl, bvl_snoc]
theorem pre_zero (s : ByteArray) : pre s 0 = 0 := by simp [pre, bvl]
theorem pre_all (s : ByteArray) : pre s s.size = bv s := by
  unfold pre bv
  rw [List.take_of_length_le (by simp)]
theorem pre_lt (s : ByteArray) (i : Nat) (h : i ≤ s.size) : pre s i < 256 ^ i := by
  have := bvl_lt (s.data.toList.take i)
  have e : (s.data.toList.take i).length = i := by rw [List.length_take]; exact Nat.min_eq_left (by simpa using h)
  rw [e] at this; exact this
theorem sh8 (n : Nat) : (n : Int) * 2 ^ min (Int.toNat 8) IntKind.i64.bits = (n : Int) * 256 := by
  have : ((2 : Int) ^ min (Int.toNat 8) IntKind.i64.bits) = 256 := by decide
  rw [this]
@[irreducible] def sml (s : ByteArray) (k : Nat) : Bool := decide (s.size ≤ k)
theorem sml_eq (s : ByteArray) (k : Nat) : sml s k = decide (s.size ≤ k) := by unfold sml; rfl
theorem p54 {s : ByteArray} {i : Nat} (h : i < s.size) (hs : s.size ≤ 7) : pre s i < 2 ^ 54 := by
  have h1 := pre_lt s i (by omega)
  have h2 : 256 ^ i ≤ 256 ^ 6 := Nat.pow_le_pow_right (by omega) (by omega)
  have h3 : (256 : Nat) ^ 6 = 281474976710656 := rfl
  omega
theorem little_c (n : Bool) (s : ByteArray) : Fun Tryz.prog 139 [intD n s] [i64 (if s.size ≤ 7 then sg n (bv s) else 0), .v (.bool (sml s 7))] := by
  refine fun_of_go (fun t => false) mixed tOk Tryz.func139 rfl rfl ?_
  conv => whnf
  refine cond_d (fun h => ?_) (fun h => ?_) <;> conv => whnf
  · refine ⟨?_, ?_, trivial⟩
    · conv => whnf
      rw [if_neg (by omega)]
    · conv => whnf
      rw [sml_eq]; simp; omega
  · have hs : s.size ≤ 7 := by omega
    refine loop_intro (fun t => false) (fun i : Nat => ⟨fr 30 [(0, .d (intD n s)), (1, .d (.p 0 [.v (.bool n), .v (.string s)])), (2, .d (i64 0)), (3, .d (.v (.bool false))), (4, .d (i64 (pre s i))), (12, .d (i64 s.size)), (13, .d (i64 i))], []⟩) (fun i => i ≤ s.size) (fun i => s.size - i) 0 mixed tOk (Nat.zero_le _) ?_ ?_
    · refine weak_r trivial ⟨⟨rfl, rfl, trivial⟩, rfl, rfl, rfl, ?_, rfl, rfl, trivial⟩
      conv => whnf
      rw [pre_zero]; rfl
    · intro i hi
      conv => whnf
      refine cond_d (fun h2 => ?_) (fun h2 => ?_) <;> conv => whnf
      · obtain ⟨p1, p2⟩ := pre_step s i (by omega)
        have hp := p54 (s := s) (i := i) (by omega) hs
        have h8 := sh8 (pre s i)
        refine sd_dd (by omega) (by omega) ?_
        conv => whnf
        refine sd_d (by omega) ?_
        conv => whnf
        generalize s.data.toList[i]'_ = b at p1 p2
        have hb := b.toNat_lt
        refine sd_d (by rw [p1]; omega) ?_
        conv => whnf
        refine sd_d (by omega) ?_
        conv => whnf
        refine ⟨i + 1, by omega, by omega, weak_r trivial ⟨⟨rfl, rfl, trivial⟩, rfl, rfl, rfl, ?_, rfl, rfl, trivial⟩⟩
        conv => whnf
        rw [p1, p2, h8]
        exact or_i64 _ _ (by omega) hp
      · have hi2 : i = s.size := by omega
        refine cond_intro (fun h3 => ?_) (fun h3 => ?_) <;> conv => whnf
        · have hlt : pre s s.size < 72057594037927936 := by
            have h1 := pre_lt s s.size (Nat.le_refl _)
            have h2 : 256 ^ s.size ≤ 256 ^ 7 := Nat.pow_le_pow_right (by omega) (by omega)
            have h3 : (256 : Nat) ^ 7 = 72057594037927936 := rfl
            omega
          refine sd_d (by rw [hi2]; omega) ?_
          conv => whnf
          refine ⟨?_, ?_, trivial⟩
          · conv => whnf
            rw [if_pos hs, hi2, pre_all, h3]; simp [sg]
          · conv => whnf
            rw [sml_eq]; simp [hs]
        · refine ⟨?_, ?_, trivial⟩
          · conv => whnf
            rw [if_pos hs, hi2, pre_all, h3]; simp [sg]
          · conv => whnf
            rw [sml_eq]; simp [hs]
theorem sg_small {n : Bool} {s : ByteArray} (h : s.size ≤ 7) : -72057594037927936 < sg n (bv s) ∧ sg n (bv s) < 72057594037927936 := by
  have h1 : bv s < 256 ^ s.size := bvl_lt _
  have h2 : 256 ^ s.size ≤ 256 ^ 7 := Nat.pow_le_pow_right (by omega) h
  have h3 : (256 : Nat) ^ 7 = 72057594037927936 := rfl
  unfold sg; split <;> omega
theorem add_c (n m : Bool) (s t : ByteArray) (hs : s.size < 500000000000) (ht : t.size < 500000000000) : Fun Tryz.prog 67 [intD n s, intD m t] [zD (sg n (bv s) + sg m (bv t))] := by
  have h1 := ln_size s (by omega)
  have h2 := ln_size t (by omega)
  refine fun_of_go (fun t => false) mixed tOk Tryz.func67 rfl rfl ?_
  conv => whnf
  refine call_data rfl rfl (little_c n s) ?_
  conv => whnf
  refine cond_intro (fun h3 => ?_) (fun h3 => ?_)
  · conv => whnf
    refine call_data rfl rfl (little_c m t) ?_
    conv => whnf
    refine cond_intro (fun h4 => ?_) (fun h4 => ?_)
    · conv => whnf
      rw [sml_eq, decide_eq_true_eq] at h3 h4
      have b1 := sg_small (n := n) h3
      have b2 := sg_small (n := m) h4
      rw [if_pos h3, if_pos h4]
      refine sd_d (by omega) ?_
      conv => whnf
      refine call_data rfl rfl (of_c _ (by omega)) ?_
      conv => whnf
      exact ⟨⟨rfl, rfl, trivial⟩, trivial⟩
    · conv => whnf
      refine callv_data (load_c s (by omega)) ?_
      conv => whnf
      refine callv_data (load_c t (by omega)) ?_
      conv => whnf
      refine safe_intro (by kernel_rfl) ?_
      conv => whnf
      refine cond_b (fun h5 => ?_) (fun h5 => ?_)
      · conv => whnf
        refine callv_data (plus_c _ _ (by omega) (by omega)) ?_
        conv => whnf
        have hl : (ln (bv s + bv t)).length < 1000000000000 := by
          have h7 := ln_high (bv s); have h8 := ln_high (bv t)
          have := ln_length_le (v := bv s + bv t) (m := (ln (bv s)).length + (ln (bv t)).length + 1) (by
            have e1 := Nat.pow_le_pow_right (n := 4294967296) (by omega) (show (ln (bv s)).length ≤ (ln (bv s)).length + (ln (bv t)).length by omega)
            have e2 := Nat.pow_le_pow_right (n := 4294967296) (by omega) (show (ln (bv t)).length ≤ (ln (bv s)).length + (ln (bv t)).length by omega)
            rw [Nat.pow_succ]; omega)
          omega
        refine callv_data (pack_ln n _ hl) ?_
        conv => whnf
        refine safe_intro (by kernel_rfl) ?_
        conv => whnf
        have e : sg n (bv s + bv t) = sg n (bv s) + sg m (bv t) := by
          have : n = m := by simpa using h5
          subst this; unfold sg; split <;> omega
        rw [e]
        exact ⟨⟨rfl, rfl, trivial⟩, trivial⟩
      · conv => whnf
        refine call_data rfl rfl (compare_c _ _ (by omega) (by omega)) ?_
        conv => whnf
        refine cond_d (fun h6 => ?_) (fun h6 => ?_)
        · conv => whnf
          have hlt : bv s < bv t := by unfold cmpN at h6; split at h6 <;> first | assumption | (split at h6 <;> omega)
          refine callv_data (minus_c _ _ (by omega) (by omega)) ?_
          conv => whnf
          refine callv_data (pack_ln m _ (by have := ln_len_mono (show bv t - bv s ≤ bv t by omega); omega)) ?_
          conv => whnf
          refine safe_intro (by kernel_rfl) ?_
          conv => whnf
          have e : sg m (bv t - bv s) = sg n (bv s) + sg m (bv t) := by
            unfold sg; cases n <;> cases m <;> simp at h5 ⊢ <;> omega
          rw [e]
          exact ⟨⟨rfl, rfl, trivial⟩, trivial⟩
        · conv => whnf
          have hge : bv t ≤ bv s := by
            rcases Nat.lt_or_ge (bv s) (bv t) with h7 | h7
            · exact absurd (by unfold cmpN; rw [if_pos h7]; omega) h6
            · exact h7
          refine callv_data (minus_c _ _ (by omega) (by omega)) ?_
          conv => whnf
          refine callv_data (pack_ln n _ (by have := ln_len_mono (show bv s - bv t ≤ bv s by omega); omega)) ?_
          conv => whnf
          refine safe_intro (by kernel_rfl) ?_
          conv => whnf
          have e : sg n (bv s - bv t) = sg n (bv s) + sg m (bv t) := by
            unfold sg; cases n <;> cases m <;> simp at h5 ⊢ <;> omega
          rw [e]
          exact ⟨⟨rfl, rfl, trivial⟩, trivial⟩
  · conv => whnf
    refine callv_data (load_c s (by omega)) ?_
    conv => whnf
    refine callv_data (load_c t (by omega)) ?_
    conv => whnf
    refine safe_intro (by kernel_rfl) ?_
    conv => whnf
    refine cond_b (fun h5 => ?_) (fun h5 => ?_)
    · conv => whnf
      refine callv_data (plus_c _ _ (by omega) (by omega)) ?_
      conv => whnf
      have hl : (ln (bv s + bv t)).length < 1000000000000 := by
        have h7 := ln_high (bv s); have h8 := ln_high (bv t)
        have := ln_length_le (v := bv s + bv t) (m := (ln (bv s)).length + (ln (bv t)).length + 1) (by
          have e1 := Nat.pow_le_pow_right (n := 4294967296) (by omega) (show (ln (bv s)).length ≤ (ln (bv s)).length + (ln (bv t)).length by omega)
          have e2 := Nat.pow_le_pow_right (n := 4294967296) (by omega) (show (ln (bv t)).length ≤ (ln (bv s)).length + (ln (bv t)).length by omega)
          rw [Nat.pow_succ]; omega)
        omega
      refine callv_data (pack_ln n _ hl) ?_
      conv => whnf
      refine safe_intro (by kernel_rfl) ?_
      conv => whnf
      have e : sg n (bv s + bv t) = sg n (bv s) + sg m (bv t) := by
        have : n = m := by simpa using h5
        subst this; unfold sg; split <;> omega
      rw [e]
      exact ⟨⟨rfl, rfl, trivial⟩, trivial⟩
    · conv => whnf
      refine call_data rfl rfl (compare_c _ _ (by omega) (by omega)) ?_
      conv => whnf
      refine cond_d (fun h6 => ?_) (fun h6 => ?_)
      · conv => whnf
        have hlt : bv s < bv t := by unfold cmpN at h6; split at h6 <;> first | assumption | (split at h6 <;> omega)
        refine callv_data (minus_c _ _ (by omega) (by omega)) ?_
        conv => whnf
        refine callv_data (pack_ln m _ (by have := ln_len_mono (show bv t - bv s ≤ bv t by omega); omega)) ?_
        conv => whnf
        refine safe_intro (by kernel_rfl) ?_
        conv => whnf
        have e : sg m (bv t - bv s) = sg n (bv s) + sg m (bv t) := by
          unfold sg; cases n <;> cases m <;> simp at h5 ⊢ <;> omega
        rw [e]
        exact ⟨⟨rfl, rfl, trivial⟩, trivial⟩
      · conv => whnf
        have hge : bv t ≤ bv s := by
          rcases Nat.lt_or_ge (bv s) (bv t) with h7 | h7
          · exact absurd (by unfold cmpN; rw [if_pos h7]; omega) h6
          · exact h7
        refine callv_data (minus_c _ _ (by omega) (by omega)) ?_
        conv => whnf
        refine callv_data (pack_ln n _ (by have := ln_len_mono (show bv s - bv t ≤ bv s by omega); omega)) ?_
        conv => whnf
        refine safe_intro (by kernel_rfl) ?_
        conv => whnf
        have e : sg n (bv s - bv t) = sg n (bv s) + sg m (bv t) := by
          unfold sg; cases n <;> cases m <;> simp at h5 ⊢ <;> omega
        rw [e]
        exact ⟨⟨rfl, rfl, trivial⟩, trivial⟩
theorem sub_c (n m : Bool) (s t : ByteArray) (hs : s.size < 500000000000) (ht : t.size < 500000000000) : Fun Tryz.prog 229 [intD n s, intD m t] [zD (sg n (bv s) - sg m (bv t))] := by
  refine fun_of_go (fun t => t == 3) mixed tOk Tryz.func229 rfl rfl ?_
  conv => whnf
  refine call_eq rfl rfl (add_c n (!m) s t hs ht) (by simp only [bnot_eq]; rfl) ?_
  conv => whnf
  have e : sg n (bv s) + sg (!m) (bv t) = sg n (bv s) - sg m (bv t) := by unfold sg; cases m <;> simp <;> omega
  rw [e]
  exact ⟨⟨rfl, rfl, trivial⟩, trivial⟩
def cmpZ (a b : Int) : Int := if a < b then -1 else if b < a then 1 else 0
theorem cmp_sg (n m : Bool) (a b : Nat) (x y : Bool) (hx : x = (n && decide (a ≠ 0))) (hy : y = (m && decide (b ≠ 0))) :
    cmpZ (sg n a) (sg m b) = if x then (if y then cmpN b a else -1) else if y then 1 else cmpN a b := by
  subst hx hy
  unfold cmpZ cmpN sg
  cases n <;> cases m <;> by_cases h1 : a = 0 <;> by_cases h2 : b = 0 <;> simp [h1, h2] <;> (repeat' split) <;> omega
theorem compareI_c (n m : Bool) (s t : ByteArray) (hs : s.size < 1000000000000) (ht : t.size < 1000000000000) : Fun Tryz.prog 96 [intD n s, intD m t] [i64 (cmpZ (sg n (bv s)) (sg m (bv t)))] := by
  have h1 := ln_size s hs
  have h2 := ln_size t ht
  have l1 := us_length (ln (bv s))
  have l2 := us_length (ln (bv t))
  have z1 := ln_len_eq_zero (a := bv s)
  have z2 := ln_len_eq_zero (a := bv t)
  refine fun_of_go (fun t => t == 2 || t == 3) mixed tOk Tryz.func96 rfl rfl ?_
  conv => whnf
  refine callv_data (load_c s hs) ?_
  conv => whnf
  refine callv_data (load_c t ht) ?_
  conv => whnf
  refine safe_intro (by kernel_rfl) ?_
  conv => whnf
  generalize bv s = p at *
  generalize bv t = q at *
  refine cond_intro (fun hn => ?_) (fun hn => ?_)
  · conv => whnf
    refine cond_intro (fun hm => ?_) (fun hm => ?_)
    · conv => whnf
      refine cond_d (fun ha => ?_) (fun ha => ?_)
      · conv => whnf
        refine cond_d (fun hb => ?_) (fun hb => ?_)
        · conv => whnf
          refine call_data rfl rfl (compare_c q p (by omega) (by omega)) ?_
          conv => whnf
          refine ⟨?_, trivial⟩
          conv => whnf
          have hc := cmp_sg n m p q true true (by simp [*]; try omega) (by simp [*]; try omega)
          rw [hc]; simp
        · conv => whnf
          refine cond_dt ha ?_
          conv => whnf
          refine ⟨?_, trivial⟩
          conv => whnf
          have hc := cmp_sg n m p q true false (by simp [*]; try omega) (by simp [*]; try omega)
          rw [hc]; simp
      · conv => whnf
        refine cond_df ha ?_
        conv => whnf
        refine cond_d (fun hb => ?_) (fun hb => ?_) <;> conv => whnf
        · refine ⟨?_, trivial⟩
          conv => whnf
          have hc := cmp_sg n m p q false true (by simp [*]; try omega) (by simp [*]; try omega)
          rw [hc]; simp
        · refine call_data rfl rfl (compare_c p q (by omega) (by omega)) ?_
          conv => whnf
          refine ⟨?_, trivial⟩
          conv => whnf
          have hc := cmp_sg n m p q false false (by simp [*]; try omega) (by simp [*]; try omega)
          rw [hc]; simp
    · conv => whnf
      refine cond_d (fun ha => ?_) (fun ha => ?_)
      · conv => whnf
        refine cond_dt ha ?_
        conv => whnf
        refine ⟨?_, trivial⟩
        conv => whnf
        have hc := cmp_sg n m p q true false (by simp [*]; try omega) (by simp [*]; try omega)
        rw [hc]; simp
      · conv => whnf
        refine cond_df ha ?_
        conv => whnf
        refine call_data rfl rfl (compare_c p q (by omega) (by omega)) ?_
        conv => whnf
        refine ⟨?_, trivial⟩
        conv => whnf
        have hc := cmp_sg n m p q false false (by simp [*]; try omega) (by simp [*]; try omega)
        rw [hc]; simp
  · conv => whnf
    refine cond_intro (fun hm => ?_) (fun hm => ?_)
    · conv => whnf
      refine cond_d (fun hb => ?_) (fun hb => ?_) <;> conv => whnf
      · refine ⟨?_, trivial⟩
        conv => whnf
        have hc := cmp_sg n m p q false true (by simp [*]; try omega) (by simp [*]; try omega)
        rw [hc]; simp
      · refine call_data rfl rfl (compare_c p q (by omega) (by omega)) ?_
        conv => whnf
        refine ⟨?_, trivial⟩
        conv => whnf
        have hc := cmp_sg n m p q false false (by simp [*]; try omega) (by simp [*]; try omega)
        rw [hc]; simp
    · conv => whnf
      refine call_data rfl rfl (compare_c p q (by omega) (by omega)) ?_
      conv => whnf
      refine ⟨?_, trivial⟩
      conv => whnf
      have hc := cmp_sg n m p q false false (by simp [*]; try omega) (by simp [*]; try omega)
      rw [hc]; simp
end Go.Nv
end
section
namespace Go.Nv
open Go.Proofs Nw
set_option maxRecDepth 100000
set_option linter.unusedVariables false
set_option linter.unusedSimpArgs false
theorem short_c (a d : Nat) (h0 : 0 < d) (hd : d < 4294967296) (ha : (ln a).length < 1000000000000) : Fun Tryz.prog 297 [.l (us (ln a)), u32 d] [.l (us (ln (a / d))), u32 ((a % d : Nat) : Int)] := by
  have la := us_length (ln a)
  refine fun_of_go (fun t => false) mixed tOk Tryz.func297 rfl rfl ?_
  conv => whnf
  refine sd_d (by simp only [maxLen]; omega) ?_
  conv => whnf
  refine sd_d (by omega) ?_
  conv => whnf
  refine loop_intro (fun t => false) (fun k : Nat => ⟨fr 35 [(0, .d (.l (us (ln a)))), (1, .d (u32 d)), (4, .own 0 0), (5, .d (u32 0)), (6, .own 1 0), (7, .d (u32 ((a / 4294967296 ^ k % d : Nat) : Int))), (8, .d (i64 ((k : Int) - 1)))], [.row 0 171 1 4 [], .row 0 171 1 4 (us (dl (ln a).length (a / 4294967296 ^ k / d * 4294967296 ^ k)))]⟩) (fun k => k ≤ (ln a).length) (fun k => k) (ln a).length mixed tOk (Nat.le_refl _) ?_ ?_
  · refine weak_r ⟨⟨rfl, rfl, rfl, rfl, rfl⟩, ⟨rfl, rfl, rfl, rfl, ?_⟩, trivial⟩ ⟨rfl, rfl, trivial, rfl, trivial, ?_, ?_, trivial⟩
    · rw [la, us_rep, Nat.div_eq_of_lt (ln_high a), Nat.zero_div, Nat.zero_mul, dl_zero]; rfl
    · conv => whnf
      rw [Nat.div_eq_of_lt (ln_high a)]; simp
    · conv => whnf
      rw [la]
  · intro k hk
    conv => whnf
    have hrl := us_length (dl (ln a).length (a / 4294967296 ^ k / d * 4294967296 ^ k))
    rw [dl_length] at hrl
    refine cond_d (fun h2 => ?_) (fun h2 => ?_) <;> conv => whnf
    · obtain ⟨j, rfl⟩ : ∃ j, k = j + 1 := ⟨k - 1, by omega⟩
      have e1 : (((j + 1 : Nat) : Int) - 1).toNat = j := by omega
      have hm := Nat.mod_lt (a / 4294967296 ^ (j + 1)) h0
      have hx : a / 4294967296 ^ j % 4294967296 < 4294967296 := Nat.mod_lt _ (by omega)
      obtain ⟨s1, s2⟩ := short_step a d j h0
      refine idx_intro _ (by rw [e1]; exact ul_get (show j < (ln a).length by omega)) (by omega) (us_uni _) ?_
      conv => whnf
      refine call_data rfl rfl (div32_c ((a / 4294967296 ^ (j + 1) % d : Nat) : Int) ((a / 4294967296 ^ j % 4294967296 : Nat) : Int) d (by omega) (by omega) (by omega)) ?_
      conv => whnf
      refine sd_du (by omega) (us_uni _) ?_
      conv => whnf
      rw [e1]
      refine rst_one (by omega) (us_val _) rfl ?_
      conv => whnf
      refine sd_d (by omega) ?_
      conv => whnf
      have q1 : ((a / 4294967296 ^ (j + 1) % d : Nat) : Int) * 4294967296 + ((a / 4294967296 ^ j % 4294967296 : Nat) : Int) = ((a / 4294967296 ^ (j + 1) % d * 4294967296 + a / 4294967296 ^ j % 4294967296 : Nat) : Int) := by omega
      have hq : (a / 4294967296 ^ (j + 1) % d * 4294967296 + a / 4294967296 ^ j % 4294967296) / d < 4294967296 := by
        rw [Nat.div_lt_iff_lt_mul h0]
        have := Nat.mul_le_mul_right 4294967296 (show a / 4294967296 ^ (j + 1) % d + 1 ≤ d by omega)
        rw [Nat.mul_comm d] at this
        omega
      refine ⟨j, by omega, by omega, weak_r ⟨⟨rfl, rfl, rfl, rfl, rfl⟩, ⟨rfl, rfl, rfl, rfl, ?_⟩, trivial⟩ ⟨rfl, rfl, trivial, rfl, trivial, ?_, ?_, trivial⟩⟩
      · rw [q1, s2, ← dl_top hq, ← us_set]; rfl
      · conv => whnf
        rw [q1, ← s1]; rfl
      · conv => whnf
        omega
    · have hk0 : k = 0 := by omega
      subst hk0
      refine call_frz 1 (call_eq rfl rfl (trim_c (dl (ln a).length (a / 4294967296 ^ 0 / d * 4294967296 ^ 0)) (lim_dl _ _) (by rw [dl_length]; omega)) rfl ?_)
      conv => whnf
      have hA := ln_high a
      have hdv := Nat.div_le_self a d
      refine ⟨?_, ?_, trivial⟩
      · conv => whnf
        rw [lv_dl]; simp only [Nat.pow_zero, Nat.div_one, Nat.mul_one]; rw [Nat.mod_eq_of_lt (by omega)]
      · conv => whnf
        simp
end Go.Nv
end
