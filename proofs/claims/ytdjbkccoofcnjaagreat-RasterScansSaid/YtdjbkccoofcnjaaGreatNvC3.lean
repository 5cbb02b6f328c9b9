import Derived.Test.YtdjbkccoofcnjaaGreatNvC2
import Derived.Test.YtdjbkccoofcnjaaGreatNvP1
import Derived.Test.YtdjbkccoofcnjaaGreatNvN5
set_option linter.all false
set_option linter.unusedVariables false
set_option linter.unusedSimpArgs false
section
namespace Go.Nv
open Go.Proofs Nw
set_option maxRecDepth 100000
set_option linter.unusedVariables false
set_option linter.unusedSimpArgs false
theorem shl64 (x n : Nat) (hn : n ≤ 31) (hx : x < 4294967296) : ((x : Int) % 18446744073709551616 * 2 ^ min ((n : Int).toNat) IntKind.u64.bits) % 18446744073709551616 = ((x * 2 ^ n : Nat) : Int) := by
  rw [Int.toNat_natCast, show min n IntKind.u64.bits = n from Nat.min_eq_left (show n ≤ 64 by omega)]
  have h2 : 2 ^ n ≤ 2 ^ 31 := Nat.pow_le_pow_right (by omega) hn
  have h3 : x * 2 ^ n ≤ 4294967295 * 2 ^ 31 := Nat.mul_le_mul (by omega) h2
  have e : (x : Int) % 18446744073709551616 * 2 ^ n = ((x * 2 ^ n : Nat) : Int) := by
    rw [show (x : Int) % 18446744073709551616 = x by omega]; push_cast; rfl
  rw [e]; omega
theorem shift_c (a n : Nat) (hn : n ≤ 31) (ha : (ln a).length < 1000000000000) : FunO Tryz.prog 299 [.l (us (ln a)), i64 n] 171 1 (us (dl ((ln a).length + 1) (a * 2 ^ n))) := by
  have la := us_length (ln a)
  refine funO_of_go (fun t => false) mixed tOk Tryz.func299 rfl rfl ?_
  conv => whnf
  refine sd_d (by omega) ?_
  conv => whnf
  refine sd_d (by simp only [maxLen]; omega) ?_
  conv => whnf
  refine loop_intro (fun t => false) (fun i : Nat => ⟨fr 41 [(1, .d (i64 n)), (4, .own 0 0), (5, .own 1 0), (13, .d (.l (us (ln a)))), (14, .d (i64 (us (ln a)).length)), (15, .d (i64 i))], [.row 0 171 1 4 [], .row 0 171 1 4 (us (dl ((ln a).length + 1) ((a % 4294967296 ^ i) * 2 ^ n)))]⟩) (fun i => i ≤ (ln a).length) (fun i => (ln a).length - i) 0 mixed tOk (Nat.zero_le _) ?_ ?_
  · refine weak_r ?_ ?_ <;> repeat' (first | exact trivial | exact rfl | refine And.intro ?_ ?_)
    rw [la, us_rep, Nat.pow_zero, Nat.mod_one, Nat.zero_mul, dl_zero]; rfl
  · intro i hi
    conv => whnf
    have hrl := us_length (dl ((ln a).length + 1) ((a % 4294967296 ^ i) * 2 ^ n))
    rw [dl_length] at hrl
    refine cond_d (fun h2 => ?_) (fun h2 => ?_) <;> conv => whnf
    · obtain ⟨q1, q2, q3, q4, q5, q6⟩ := shift_step (a := a) (n := n) (i := i) (m := (ln a).length + 1) hn (by omega)
      have hx : a / 4294967296 ^ i % 4294967296 < 4294967296 := Nat.mod_lt _ (by omega)
      refine idx_intro _ (ul_get (a := a) (i := i) (by omega)) (by omega) (us_uni _) ?_
      conv => whnf
      refine sd_d (by omega) ?_
      conv => whnf
      rw [shl64 _ _ hn hx]
      refine sd_du (by omega) (us_uni _) ?_
      conv => whnf
      refine rld_intro (i := i) (r := 0) _ _ (us_get q2) (by omega) (by omega) (us_uni _) rfl ?_
      conv => whnf
      refine sd_du (by omega) (us_uni _) ?_
      conv => whnf
      rw [Int.toNat_natCast]
      have e1 : (((a / 4294967296 ^ i % 4294967296) * 2 ^ n : Nat) : Int) % 4294967296 = (((a / 4294967296 ^ i % 4294967296) % 2 ^ (32 - n) * 2 ^ n : Nat) : Int) := by rw [← q3]; omega
      have e2 := or32 q1 q4
      rw [e1]
      refine rst_one (by omega) (us_val _) rfl ?_
      have e3 : IntKind.u32.wrap (BitVec.toNat (BitVec.ofInt IntKind.u32.bits (((a % 4294967296 ^ i) * 2 ^ n / 4294967296 ^ i : Nat) : Int) ||| BitVec.ofInt IntKind.u32.bits (((a / 4294967296 ^ i % 4294967296) % 2 ^ (32 - n) * 2 ^ n : Nat) : Int))) = (((a % 4294967296 ^ i) * 2 ^ n / 4294967296 ^ i + (a / 4294967296 ^ i % 4294967296) % 2 ^ (32 - n) * 2 ^ n : Nat) : Int) := e2
      rw [e3, us_set]
      conv => whnf
      refine sd_d (by omega) ?_
      conv => whnf
      refine sd_d (by omega) ?_
      conv => whnf
      refine sd_du (by simp only [us_length, List.length_set, dl_length]; omega) (us_uni _) ?_
      conv => whnf
      rw [show ((i : Int) + 1).toNat = i + 1 by omega]
      refine rst_one (by simp only [us_length, List.length_set, dl_length]; omega) (us_val _) rfl ?_
      have e4 := sh32 ((a / 4294967296 ^ i % 4294967296) * 2 ^ n)
      rw [e4]
      conv => whnf
      refine sd_d (by omega) ?_
      conv => whnf
      refine ⟨i + 1, by omega, by omega, ?_⟩
      refine weak_r ?_ ?_ <;> repeat' (first | exact trivial | exact rfl | refine And.intro ?_ ?_)
      have e5 : (((a / 4294967296 ^ i % 4294967296) * 2 ^ n / 4294967296 : Nat) : Int) % 4294967296 = (((a / 4294967296 ^ i % 4294967296) * 2 ^ n / 4294967296 : Nat) : Int) := by
        clear q6 e1 e2 e3 e4 q2 q3
        generalize (a / 4294967296 ^ i % 4294967296) * 2 ^ n / 4294967296 = z at q5
        omega
      rw [e5, us_set, q6]
    · have hi2 : i = (ln a).length := by omega
      refine ⟨rfl, rfl, rfl, ?_⟩
      rw [hi2, Nat.mod_eq_of_lt (ln_high a)]
theorem or64' {a b : Nat} (ha : a < 4294967296) (hb : b < 4294967296) : IntKind.u64.wrap ((BitVec.ofInt 64 (a : Int) ||| BitVec.ofInt 64 ((b : Int) * 4294967296)).toNat : Int) = ((a + b * 4294967296 : Nat) : Int) := by
  have := or64 (h := b) (l := a) (by omega) (by omega)
  rw [BitVec.toNat_or, Nat.or_comm, ← BitVec.toNat_or, this]; omega
theorem shr64 (y n : Nat) (hn : n ≤ 31) : Int.fdiv (y : Int) (2 ^ min ((n : Int).toNat) IntKind.u64.bits) = ((y / 2 ^ n : Nat) : Int) := by
  rw [Int.toNat_natCast, show min n IntKind.u64.bits = n from Nat.min_eq_left (show n ≤ 64 by omega)]
  rw [Int.fdiv_eq_ediv_of_nonneg _ (by exact Int.le_of_lt (Int.pow_pos (by omega)))]
  push_cast; rfl
theorem unshift_c (r n : Nat) (hn : n ≤ 31) (hr : (ln r).length < 1000000000000) : Fun Tryz.prog 301 [.l (us (ln r)), i64 n] [.l (us (ln (r / 2 ^ n)))] := by
  have la := us_length (ln r)
  refine fun_of_go (fun t => false) mixed tOk Tryz.func301 rfl rfl ?_
  conv => whnf
  refine sd_d (by simp only [maxLen]; omega) ?_
  conv => whnf
  refine loop_intro (fun t => false) (fun i : Nat => ⟨fr 45 [(0, .d (.l (us (ln r)))), (1, .d (i64 n)), (4, .own 0 0), (5, .own 1 0), (12, .d (i64 (us (ln r)).length)), (13, .d (i64 i))], [.row 0 171 1 4 [], .row 0 171 1 4 (us (dl (ln r).length ((r / 2 ^ n) % 4294967296 ^ i)))]⟩) (fun i => i ≤ (ln r).length) (fun i => (ln r).length - i) 0 mixed tOk (Nat.zero_le _) ?_ ?_
  · refine weak_r ?_ ?_ <;> repeat' (first | exact trivial | exact rfl | refine And.intro ?_ ?_)
    rw [la, us_rep, Nat.pow_zero, Nat.mod_one, dl_zero]; rfl
  · intro i hi
    conv => whnf
    have hrl := us_length (dl (ln r).length ((r / 2 ^ n) % 4294967296 ^ i))
    rw [dl_length] at hrl
    refine cond_d (fun h2 => ?_) (fun h2 => ?_) <;> conv => whnf
    · have hx : r / 4294967296 ^ i % 4294967296 < 4294967296 := Nat.mod_lt _ (by omega)
      have hx' : r / 4294967296 ^ (i + 1) % 4294967296 < 4294967296 := Nat.mod_lt _ (by omega)
      have hdig := shr_dig r n i hn
      refine idx_intro _ (ul_get (a := r) (i := i) (by omega)) (by omega) (us_uni _) ?_
      conv => whnf
      refine sd_d (by omega) ?_
      conv => whnf
      refine cond_d (fun h3 => ?_) (fun h3 => ?_) <;> conv => whnf
      · refine sd_d (by omega) ?_
        conv => whnf
        refine idx_intro _ (by rw [show ((i : Int) + 1).toNat = i + 1 by omega]; exact ul_get (show i + 1 < (ln r).length by omega)) (by omega) (us_uni _) ?_
        conv => whnf
        refine sd_d (by omega) ?_
        conv => whnf
        have hy : IntKind.u64.wrap (BitVec.toNat (BitVec.ofInt IntKind.u64.bits (((r / 4294967296 ^ i % 4294967296 : Nat) : Int) % 18446744073709551616) ||| BitVec.ofInt IntKind.u64.bits (((r / 4294967296 ^ (i + 1) % 4294967296 : Nat) : Int) % 18446744073709551616 * 2 ^ min (Int.toNat 32) IntKind.u64.bits % 18446744073709551616))) = ((r / 4294967296 ^ i % 4294967296 + r / 4294967296 ^ (i + 1) % 4294967296 * 4294967296 : Nat) : Int) := by
          have e : ((2 : Int) ^ min (Int.toNat 32) IntKind.u64.bits) = 4294967296 := by decide
          rw [e, show ((r / 4294967296 ^ i % 4294967296 : Nat) : Int) % 18446744073709551616 = ((r / 4294967296 ^ i % 4294967296 : Nat) : Int) by omega, show ((r / 4294967296 ^ (i + 1) % 4294967296 : Nat) : Int) % 18446744073709551616 * 4294967296 % 18446744073709551616 = ((r / 4294967296 ^ (i + 1) % 4294967296 : Nat) : Int) * 4294967296 by omega]
          exact or64' hx hx'
        refine sd_d (by omega) ?_
        conv => whnf
        refine sd_du (by omega) (us_uni _) ?_
        conv => whnf
        rw [hy, shr64 _ _ hn, Int.toNat_natCast]
        refine rst_one (by omega) (us_val _) rfl ?_
        conv => whnf
        refine sd_d (by omega) ?_
        conv => whnf
        refine ⟨i + 1, by omega, by omega, ?_⟩
        refine weak_r ?_ ?_ <;> repeat' (first | exact trivial | exact rfl | refine And.intro ?_ ?_)
        rw [← dl_mod_set (m := (ln r).length) _ (by omega), hdig, ← us_set]
        congr 3
      · have hz : r / 4294967296 ^ (i + 1) = 0 := div_zero_of (by omega)
        have hy : ((r / 4294967296 ^ i % 4294967296 : Nat) : Int) % 18446744073709551616 = ((r / 4294967296 ^ i % 4294967296 + r / 4294967296 ^ (i + 1) % 4294967296 * 4294967296 : Nat) : Int) := by rw [hz]; omega
        refine sd_d (by omega) ?_
        conv => whnf
        refine sd_du (by omega) (us_uni _) ?_
        conv => whnf
        rw [hy, shr64 _ _ hn, Int.toNat_natCast]
        refine rst_one (by omega) (us_val _) rfl ?_
        conv => whnf
        refine sd_d (by omega) ?_
        conv => whnf
        refine ⟨i + 1, by omega, by omega, ?_⟩
        refine weak_r ?_ ?_ <;> repeat' (first | exact trivial | exact rfl | refine And.intro ?_ ?_)
        rw [← dl_mod_set (m := (ln r).length) _ (by omega), hdig, ← us_set]
        congr 3
    · have hi2 : i = (ln r).length := by omega
      refine call_frz 1 (call_eq rfl rfl (trim_c (dl (ln r).length ((r / 2 ^ n) % 4294967296 ^ i)) (lim_dl _ _) (by rw [dl_length]; omega)) rfl ?_)
      conv => whnf
      refine ⟨?_, trivial⟩
      conv => whnf
      have hA := ln_high r
      have hdv := Nat.div_le_self r (2 ^ n)
      rw [lv_dl, hi2, Nat.mod_mod, Nat.mod_eq_of_lt (by omega)]
end Go.Nv
end
section
namespace Go.Nv
open Go.Proofs Nw
set_option maxRecDepth 100000
set_option linter.unusedVariables false
set_option linter.unusedSimpArgs false
def blen (x : Nat) : Nat := if x = 0 then 0 else Nat.log2 x + 1
theorem tab_get {s : ByteArray} (h : ((List.range 256).all fun i => bt s (i : Int) == (blen i : Int)) = true) (hs : s.size = 256) {i : Nat} (hi : i < 256) : bt s (i : Int) = (blen i : Int) := by
  have := List.all_eq_true.1 h i (by simpa using hi)
  simpa using this
theorem blen_div (x k : Nat) (h : 2 ^ k ≤ x) : blen (x / 2 ^ k) + k = blen x := by
  have hx : x ≠ 0 := by have : 0 < 2 ^ k := Nat.pow_pos (by omega); omega
  have h2 : x / 2 ^ k ≠ 0 := by have := Nat.div_pos h (Nat.pow_pos (by omega)); omega
  unfold blen
  rw [if_neg hx, if_neg h2]
  have e : (x / 2 ^ k).log2 + k = x.log2 := by
    have h3 := Nat.log2_self_le h2
    have h4 : x / 2 ^ k < 2 ^ ((x / 2 ^ k).log2 + 1) := Nat.lt_log2_self
    have h5 : 2 ^ ((x / 2 ^ k).log2 + k) ≤ x := by
      rw [Nat.pow_add]
      exact Nat.le_trans (Nat.mul_le_mul_right _ h3) (Nat.div_mul_le_self _ _)
    have h6 : x < 2 ^ ((x / 2 ^ k).log2 + k + 1) := by
      rw [Nat.div_lt_iff_lt_mul (Nat.pow_pos (by omega)), ← Nat.pow_add] at h4
      rwa [show (x / 2 ^ k).log2 + k + 1 = (x / 2 ^ k).log2 + 1 + k by omega]
    have h7 := (Nat.le_log2 hx).2 h5
    have h8 := (Nat.log2_lt hx).2 h6
    omega
  omega
theorem blen_le {x k : Nat} (h : x < 2 ^ k) : blen x ≤ k := by
  unfold blen
  split
  · omega
  · rename_i hx; have := (Nat.log2_lt hx).2 h; omega
theorem blen_low {x : Nat} (h : x ≠ 0) : 2 ^ (blen x - 1) ≤ x ∧ x < 2 ^ blen x := by
  unfold blen
  rw [if_neg h]
  exact ⟨by simpa using Nat.log2_self_le h, Nat.lt_log2_self⟩
theorem len32_c (x : Nat) (hx : x < 4294967296) : Fun Tryz.prog 272 [u32 x] [i64 (blen x)] := by
  refine fun_of_go (fun t => false) mixed tOk Tryz.func272 rfl rfl ?_
  conv => whnf
  refine cond_d (fun h => ?_) (fun h => ?_)
  · conv => whnf
    refine sd_d (by omega) ?_
    conv => whnf
    have e := shr32 x 16 (by omega)
    have hb := blen_div x 16 (by omega)
    have e' : Int.fdiv (x : Int) (2 ^ min (Int.toNat 16) IntKind.u32.bits) = ((x / 2 ^ 16 : Nat) : Int) := e
    rw [e']
    generalize hy : x / 2 ^ 16 = y at hb ⊢
    have hy2 : y < 65536 := by omega
    refine cond_d (fun h => ?_) (fun h => ?_)
    · conv => whnf
      refine sd_d (by omega) ?_
      conv => whnf
      have e := shr32 y 8 (by omega)
      have hb2 := blen_div y 8 (by omega)
      have e' : Int.fdiv (y : Int) (2 ^ min (Int.toNat 8) IntKind.u32.bits) = ((y / 2 ^ 8 : Nat) : Int) := e
      rw [e']
      generalize hz : y / 2 ^ 8 = z at hb2 ⊢
      refine sd_d (by omega) ?_
      conv => whnf
      have hX : z < 256 := by omega
      have hl := blen_le (x := z) (k := 8) hX
      have e8 : (z : Int) % 256 = z := by omega
      refine sd_d (by rw [e8]; refine ⟨by omega, ?_⟩; show _ < ((256 : Nat) : Int); omega) ?_
      conv => whnf
      rw [e8, tab_get (i := z) (by kernel_rfl) rfl hX]
      refine sd_d (by omega) ?_
      conv => whnf
      refine sd_d (by omega) ?_
      conv => whnf
      refine ⟨?_, trivial⟩
      conv => whnf
      omega
    · conv => whnf
      have hX : y < 256 := by omega
      have hl := blen_le (x := y) (k := 8) hX
      have e8 : (y : Int) % 256 = y := by omega
      refine sd_d (by rw [e8]; refine ⟨by omega, ?_⟩; show _ < ((256 : Nat) : Int); omega) ?_
      conv => whnf
      rw [e8, tab_get (i := y) (by kernel_rfl) rfl hX]
      refine sd_d (by omega) ?_
      conv => whnf
      refine sd_d (by omega) ?_
      conv => whnf
      refine ⟨?_, trivial⟩
      conv => whnf
      omega
  · conv => whnf
    refine cond_d (fun h => ?_) (fun h => ?_)
    · conv => whnf
      refine sd_d (by omega) ?_
      conv => whnf
      have e := shr32 x 8 (by omega)
      have hb2 := blen_div x 8 (by omega)
      have e' : Int.fdiv (x : Int) (2 ^ min (Int.toNat 8) IntKind.u32.bits) = ((x / 2 ^ 8 : Nat) : Int) := e
      rw [e']
      generalize hz : x / 2 ^ 8 = z at hb2 ⊢
      refine sd_d (by omega) ?_
      conv => whnf
      have hX : z < 256 := by omega
      have hl := blen_le (x := z) (k := 8) hX
      have e8 : (z : Int) % 256 = z := by omega
      refine sd_d (by rw [e8]; refine ⟨by omega, ?_⟩; show _ < ((256 : Nat) : Int); omega) ?_
      conv => whnf
      rw [e8, tab_get (i := z) (by kernel_rfl) rfl hX]
      refine sd_d (by omega) ?_
      conv => whnf
      refine sd_d (by omega) ?_
      conv => whnf
      refine ⟨?_, trivial⟩
      conv => whnf
      omega
    · conv => whnf
      have hX : x < 256 := by omega
      have hl := blen_le (x := x) (k := 8) hX
      have e8 : (x : Int) % 256 = x := by omega
      refine sd_d (by rw [e8]; refine ⟨by omega, ?_⟩; show _ < ((256 : Nat) : Int); omega) ?_
      conv => whnf
      rw [e8, tab_get (i := x) (by kernel_rfl) rfl hX]
      refine sd_d (by omega) ?_
      conv => whnf
      refine sd_d (by omega) ?_
      conv => whnf
      refine ⟨?_, trivial⟩
      conv => whnf
      omega
theorem lz32_c (x : Nat) (hx : x < 4294967296) : Fun Tryz.prog 298 [u32 x] [i64 ((32 - blen x : Nat) : Int)] := by
  have hl := blen_le (x := x) (k := 32) hx
  refine fun_of_go (fun t => false) mixed tOk Tryz.func298 rfl rfl ?_
  conv => whnf
  refine call_data rfl rfl (len32_c x hx) ?_
  conv => whnf
  refine sd_d (by omega) ?_
  conv => whnf
  refine ⟨?_, trivial⟩
  conv => whnf
  omega
end Go.Nv
end
section
namespace Go.Nv
open Go.Proofs Nw
set_option maxRecDepth 100000
set_option linter.unusedVariables false
set_option linter.unusedSectionVars false
set_option linter.unusedSimpArgs false
theorem eqBP_refl (b : B) : eqBP b b := by
  have hS : ∀ s, eqSP s s := by
    intro s
    have hD : ∀ n d, eqDn n d d := by
      intro n
      induction n with
      | zero => intro d; rfl
      | succ n ih =>
        have hl : ∀ l, eqLP (eqDn n) l l := by intro l; induction l with
          | nil => trivial
          | cons x xs ihx => exact ⟨ih x, ihx⟩
        intro d
        cases d with
        | v x =>
          show eqVP x x
          cases x <;> simp [eqVP]
        | a cs => exact hl cs
        | _ => simp [eqDn]
    cases s with
    | d x => exact hD 4 x
    | own k v => simp [eqSP]
    | ptr k v o => simp [eqSP]
    | _ => simp [eqSP]
  have hL : ∀ l, eqBP.go l l := by intro l; induction l with
    | nil => trivial
    | cons x xs ih => exact ⟨hS x, ih⟩
  cases b with
  | row => exact ⟨rfl, rfl, rfl, rfl, rfl⟩
  | box t cs => exact ⟨rfl, hL cs⟩
  | _ => simp [eqBP]
theorem top64 {h l : Nat} (hh : h < 4294967296) (hl : l < 4294967296) : IntKind.u64.wrap (BitVec.toNat (BitVec.ofInt IntKind.u64.bits ((h : Int) % 18446744073709551616 * 2 ^ min (Int.toNat 32) IntKind.u64.bits % 18446744073709551616) ||| BitVec.ofInt IntKind.u64.bits ((l : Int) % 18446744073709551616))) = ((h * 4294967296 + l : Nat) : Int) := by
  have e : ((2 : Int) ^ min (Int.toNat 32) IntKind.u64.bits) = 4294967296 := by decide
  rw [e, show (h : Int) % 18446744073709551616 * 4294967296 % 18446744073709551616 = h * 4294967296 from by omega, show (l : Int) % 18446744073709551616 = l from by omega]
  have := or64 (h := h) (l := l) (by omega) (by omega)
  exact this.trans (by omega)
theorem top64r {r l : Nat} (hh : r < 4294967296) (hl : l < 4294967296) : IntKind.u64.wrap (BitVec.toNat (BitVec.ofInt IntKind.u64.bits ((r : Int) * 2 ^ min (Int.toNat 32) IntKind.u64.bits % 18446744073709551616) ||| BitVec.ofInt IntKind.u64.bits ((l : Int) % 18446744073709551616))) = ((r * 4294967296 + l : Nat) : Int) := by
  have := top64 hh hl
  rwa [show (r : Int) % 18446744073709551616 = r by omega] at this
structure Dg (m R V i k s : Nat) : Prop where
  hk : 2 ≤ k
  hm : i + k < m
  hms : m < 4000000000000
  hV : V < 4294967296 ^ k
  hn : 2147483648 * 4294967296 ^ (k - 1) ≤ V
  hlen : (ln V).length = k
  hs : R / 4294967296 ^ i = s
  hR : s < V * 4294967296
section
variable {m R V i k s : Nat} (h : Dg m R V i k s)
include h
theorem Dg.ru : (us (dl m R)).length = m := by rw [us_length, dl_length]
theorem Dg.lv : (us (ln V)).length = k := by rw [us_length, h.hlen]
theorem Dg.U (j p : Nat) (hp : p = i + j) (hj : j ≤ k) : (us (dl m R))[p]? = some (u32 ((s / 4294967296 ^ j % 4294967296 : Nat) : Int)) := by
  subst hp
  have := h.hm
  rw [← h.hs, Nat.div_div_eq_div_mul, ← Nat.pow_add]
  exact us_get (dl_get R (by omega))
theorem Dg.W (j p : Nat) (hp : p = j) (hj : j < k) : (us (ln V))[p]? = some (u32 ((V / 4294967296 ^ j % 4294967296 : Nat) : Int)) := by
  subst hp
  have := h.hlen
  exact ul_get (by omega)
theorem Dg.st : 2147483648 ≤ V / 4294967296 ^ (k - 1) ∧ V / 4294967296 ^ (k - 1) < 4294967296 ∧ s / V < 4294967296 ∧ s / 4294967296 ^ (k - 1) < (s / V + 1) * (V / 4294967296 ^ (k - 1) + 1) ∧ s / V * (V / 4294967296 ^ (k - 1)) ≤ s / 4294967296 ^ (k - 1) ∧ s / 4294967296 ^ (k - 1) < 18446744073709551616 := gs_start h.hV (by have := h.hk; omega) h.hn h.hR
theorem Dg.v1 : V / 4294967296 ^ (k - 1) % 4294967296 = V / 4294967296 ^ (k - 1) := Nat.mod_eq_of_lt h.st.2.1
theorem Dg.top : s / 4294967296 ^ k % 4294967296 * 4294967296 + s / 4294967296 ^ (k - 1) % 4294967296 = s / 4294967296 ^ (k - 1) := by
  have hk := h.hk
  have h1 := div_step s (k - 1)
  rw [show k - 1 + 1 = k by omega] at h1
  have h2 : s / 4294967296 ^ k < 4294967296 := by
    rw [Nat.div_lt_iff_lt_mul (bpos k), Nat.mul_comm]
    exact Nat.lt_of_lt_of_le h.hR (Nat.mul_le_mul_right _ (Nat.le_of_lt h.hV))
  omega
end
theorem mlt (n : Nat) : n % 4294967296 < 4294967296 := Nat.mod_lt _ (by omega)
def dg1 (b0 b1 b3 b4 b5 : B) (m R V i k : Nat) (g r : Nat) : St := ⟨fr 194 [(0, .own 2 0), (1, .d (.l (us (ln V)))), (2, .d (i64 i)), (7, .d (i64 k)), (9, .d (u64 g)), (10, .d (u64 r))], [b0, b1, .row 0 171 1 4 (us (dl m R)), b3, b4, b5]⟩
def dg2 (b0 b1 b3 b4 b5 : B) (m R V i k : Nat) (g : Nat) : St := ⟨fr 194 [(0, .own 2 0), (1, .d (.l (us (ln V)))), (2, .d (i64 i)), (7, .d (i64 k)), (9, .d (u64 g))], [b0, b1, .row 0 171 1 4 (us (dl m R)), b3, b4, b5]⟩
theorem digit1 (b0 b1 b3 b4 b5 : B) {m R V i k s : Nat} (h : Dg m R V i k s) {c : Code} (hc : Tryz.f300.body = some c) (K : Ex → St → Prop) :
    goL Tryz.prog tbl (fun t => false) ((fl c).take 4) ⟨fr 194 [(0, .own 2 0), (1, .d (.l (us (ln V)))), (2, .d (i64 i))], [b0, b1, .row 0 171 1 4 (us (dl m R)), b3, b4, b5]⟩ 
      (lpX (fun st' => ∃ p : Nat × Nat, (p.1 * (V / 4294967296 ^ (k - 1)) + p.2 = s / 4294967296 ^ (k - 1) ∧ s / V ≤ p.1) ∧ Weak st' (dg1 b0 b1 b3 b4 b5 m R V i k p.1 p.2)) K) := by
  have hru := h.ru
  have lv := h.lv
  have hk := h.hk
  have hm := h.hm
  have hms := h.hms
  obtain ⟨g1, g2, g3, g4, g5, g6⟩ := h.st
  cases hc
  conv => whnf
  refine sd_d (by omega) ?_
  conv => whnf
  refine sd_du (by omega) (us_uni _) ?_
  conv => whnf
  refine rld_intro (i := i + k) (r := 0) _ _ (h.U k _ rfl (by omega)) (by omega) (by omega) (us_uni _) rfl ?_
  conv => whnf
  refine sd_d (by omega) ?_
  conv => whnf
  refine sd_d (by omega) ?_
  conv => whnf
  refine sd_d (by omega) ?_
  conv => whnf
  refine sd_du (by omega) (us_uni _) ?_
  conv => whnf
  refine rld_intro (i := i + (k - 1)) (r := 0) _ _ (h.U (k - 1) _ rfl (by omega)) (by omega) (by omega) (us_uni _) rfl ?_
  conv => whnf
  rw [top64 (mlt _) (mlt _), h.top]
  refine safe_intro (by kernel_rfl) ?_
  conv => whnf
  refine sd_d (by omega) ?_
  conv => whnf
  refine idx_intro _ (h.W (k - 1) _ (by omega) (by omega)) (by omega) (us_uni _) ?_
  conv => whnf
  rw [h.v1]
  refine sd_d (by omega) ?_
  conv => whnf
  refine sd_d (by omega) ?_
  conv => whnf
  refine idx_intro _ (h.W (k - 1) _ (by omega) (by omega)) (by omega) (us_uni _) ?_
  conv => whnf
  rw [h.v1]
  refine sd_d (by omega) ?_
  conv => whnf
  refine safe_intro (by kernel_rfl) ?_
  conv => whnf
  generalize hX : V / 4294967296 ^ (k - 1) = x at *
  generalize hT : s / 4294967296 ^ (k - 1) = top at *
  have e1 : ((top : Int) : Int).tdiv ((x : Int) % 18446744073709551616) = ((top / x : Nat) : Int) := by
    rw [show (x : Int) % 18446744073709551616 = x by omega, Int.tdiv_eq_ediv_of_nonneg (by omega)]; rfl
  have e2 : ((top : Int) : Int).tmod ((x : Int) % 18446744073709551616) = ((top % x : Nat) : Int) := by
    rw [show (x : Int) % 18446744073709551616 = x by omega, Int.tmod_eq_emod_of_nonneg (by omega)]; rfl
  have d1 := Nat.div_le_self top x
  have d2 := Nat.mod_le top x
  refine ⟨(top / x, top % x), ⟨?_, ?_⟩, ?_⟩
  · rw [Nat.mul_comm]; exact Nat.div_add_mod top x
  · show s / V ≤ top / x
    rw [Nat.le_div_iff_mul_le (by omega)]; exact g5
  · refine weak_x ⟨eqBP_refl _, eqBP_refl _, ⟨rfl, rfl, rfl, rfl, rfl⟩, eqBP_refl _, eqBP_refl _, eqBP_refl _, trivial⟩ ⟨trivial, rfl, rfl, ?_, ?_, ?_, trivial⟩
    · conv => whnf
      omega
    · conv => whnf
      rw [e1]; clear e1 e2; generalize top / x = y at *; exact Int.emod_eq_of_lt (by omega) (by omega)
    · conv => whnf
      rw [e2]
end Go.Nv
end
section
namespace Go.Nv
open Go.Proofs Nw
set_option maxRecDepth 100000
set_option linter.unusedVariables false
set_option linter.unusedSimpArgs false
def dg1b (b0 b1 b3 b4 b5 : B) (m R V i k : Nat) (g r : Nat) (b : Bool) : St := ⟨fr 194 [(0, .own 2 0), (1, .d (.l (us (ln V)))), (2, .d (i64 i)), (7, .d (i64 k)), (9, .d (u64 g)), (10, .d (u64 r)), (82, .d (.v (.bool b)))], [b0, b1, .row 0 171 1 4 (us (dl m R)), b3, b4, b5]⟩
theorem digit2 (b0 b1 b3 b4 b5 : B) {m R V i k s : Nat} (h : Dg m R V i k s) {c : Code} (hc : Tryz.f300.body = some c) (K : Ex → St → Prop) (p0 : Nat × Nat) (hp0 : p0.1 * (V / 4294967296 ^ (k - 1)) + p0.2 = s / 4294967296 ^ (k - 1) ∧ s / V ≤ p0.1) :
    goL Tryz.prog tbl (fun t => false) (((fl c).drop 4).take 1) (dg1 b0 b1 b3 b4 b5 m R V i k p0.1 p0.2)
      (lpX (fun st' => ∃ g : Nat, (s / V ≤ g ∧ g ≤ s / V + 1 ∧ g < 4294967296) ∧ Weak st' (dg2 b0 b1 b3 b4 b5 m R V i k g)) K) := by
  have hru := h.ru
  have lv := h.lv
  have hk := h.hk
  have hm := h.hm
  have hms := h.hms
  have hn := h.hn
  obtain ⟨g1, g2, g3, g4, g5, g6⟩ := h.st
  have hV0 : 0 < V := by
    rcases Nat.eq_zero_or_pos V with h | h
    · rw [h] at g1; simp at g1
    · exact h
  have hgs := fun g r he hc => gs_down (S := s) (V := V) (k := k) (g := g) (r := r) hk hV0 g3 he hc
  have hge := fun g r he hg hc => gs_end (S := s) (V := V) (k := k) (g := g) (r := r) hk hn he hg hc
  have hW1 := h.W (k - 1)
  have hW2 := h.W (k - 2)
  have hU2 := h.U (k - 2)
  rw [h.v1] at hW1
  clear hn
  generalize hX : V / 4294967296 ^ (k - 1) = x at *
  generalize hT : s / 4294967296 ^ (k - 1) = top at *
  generalize hQ : s / V = q at *
  generalize hY : V / 4294967296 ^ (k - 2) % 4294967296 = y at *
  generalize hZ : s / 4294967296 ^ (k - 2) % 4294967296 = z at *
  have hy : y < 4294967296 := by rw [← hY]; exact Nat.mod_lt _ (by omega)
  have hz : z < 4294967296 := by rw [← hZ]; exact Nat.mod_lt _ (by omega)
  have hr : ∀ g r : Nat, g * x + r = top → q ≤ g → r < 8589934592 := by
    intro g r he hg
    have h1 := Nat.mul_le_mul_right x hg
    have h2 : (q + 1) * (x + 1) = q * x + q + x + 1 := by grind
    omega
  cases hc
  conv => whnf
  refine loop_ok (fun p => dg1 b0 b1 b3 b4 b5 m R V i k p.1 p.2) (fun p => p.1 * x + p.2 = top ∧ q ≤ p.1) (fun p => p.1) p0 hp0 (Weak.refl _) ?_
  rintro ⟨g, r⟩ ⟨he, hg⟩
  replace he : g * x + r = top := he
  replace hg : q ≤ g := hg
  have hrr := hr g r he hg
  have hgt : g ≤ top := by have := Nat.le_mul_of_pos_right g (show 0 < x by omega); omega
  refine ok_cut 1 (fun t => false) (dg1b b0 b1 b3 b4 b5 m R V i k g r) (fun b : Bool => (b = true → (4294967296 ≤ g ∨ r * 4294967296 + z < g * y)) ∧ (b = false → g ≤ q + 1 ∧ g < 4294967296)) mixed tOk (by decide) ?_ ?_
  · show goL _ _ _ _ (dg1 b0 b1 b3 b4 b5 m R V i k g r) _
    conv => whnf
    refine sd_d (by omega) ?_
    conv => whnf
    have sg1 := sh32 g
    have sr1 := sh32 r
    refine cond_d (fun h1 => ?_) (fun h1 => ?_)
    · conv => whnf
      refine safe_intro (by kernel_rfl) ?_
      conv => whnf
      have hcc : 4294967296 ≤ g ∨ r * 4294967296 + z < g * y := .inl (by omega)
      refine ⟨true, ⟨fun _ => hcc, nofun⟩, ?_⟩
      exact weak_x ⟨eqBP_refl _, eqBP_refl _, ⟨rfl, rfl, rfl, rfl, rfl⟩, eqBP_refl _, eqBP_refl _, eqBP_refl _, trivial⟩ ⟨trivial, rfl, rfl, rfl, rfl, rfl, rfl, trivial⟩
    · conv => whnf
      refine sd_d (by omega) ?_
      conv => whnf
      have hg32 : g < 4294967296 := by omega
      refine cond_e (fun h2 => ?_) (fun h2 => ?_)
      · conv => whnf
        have hr32 : r < 4294967296 := by omega
        refine sd_d (by omega) ?_
        conv => whnf
        refine idx_intro _ (hW2 _ (by omega) (by omega)) (by omega) (us_uni _) ?_
        conv => whnf
        refine sd_d (by omega) ?_
        conv => whnf
        refine sd_d (by omega) ?_
        conv => whnf
        refine sd_d (by omega) ?_
        conv => whnf
        refine sd_du (by omega) (us_uni _) ?_
        conv => whnf
        refine rld_intro (i := i + (k - 2)) (r := 0) _ _ (hU2 _ rfl (by omega)) (by omega) (by omega) (us_uni _) rfl ?_
        conv => whnf
        rw [top64r hr32 hz]
        have hgy := Nat.mul_le_mul (show g ≤ 4294967295 by omega) (show y ≤ 4294967295 by omega)
        have e3 : (g : Int) * ((y : Int) % 18446744073709551616) % 18446744073709551616 = ((g * y : Nat) : Int) := by
          rw [show (y : Int) % 18446744073709551616 = y by omega]
          have : (g : Int) * (y : Int) = ((g * y : Nat) : Int) := by push_cast; rfl
          rw [this]; omega
        rw [e3]
        refine safe_intro (by kernel_rfl) ?_
        conv => whnf
        refine ⟨bz (decide (((g * y : Nat) : Int) > ((r * 4294967296 + z : Nat) : Int))), ⟨fun hb => ?_, fun hb => ?_⟩, ?_⟩
        · rw [bz_eq] at hb
          have := of_decide_eq_true hb
          exact .inr (by omega)
        · rw [bz_eq] at hb
          have := of_decide_eq_false hb
          exact ⟨hge g r he hg32 (.inr (by omega)), hg32⟩
        · exact weak_x ⟨eqBP_refl _, eqBP_refl _, ⟨rfl, rfl, rfl, rfl, rfl⟩, eqBP_refl _, eqBP_refl _, eqBP_refl _, trivial⟩ ⟨trivial, rfl, rfl, rfl, rfl, rfl, rfl, trivial⟩
      · conv => whnf
        refine safe_intro (by kernel_rfl) ?_
        conv => whnf
        refine ⟨false, ⟨nofun, fun _ => ⟨hge g r he hg32 (.inl (by omega)), hg32⟩⟩, ?_⟩
        exact weak_x ⟨eqBP_refl _, eqBP_refl _, ⟨rfl, rfl, rfl, rfl, rfl⟩, eqBP_refl _, eqBP_refl _, eqBP_refl _, trivial⟩ ⟨trivial, rfl, rfl, rfl, rfl, rfl, rfl, trivial⟩
  · rintro b ⟨hbt, hbf⟩
    refine okL_go mixed tOk (mu := fun t => false) ?_
    cases b with
    | false =>
      conv => whnf
      exact ⟨g, ⟨hg, (hbf rfl).1, (hbf rfl).2⟩, weak_x ⟨eqBP_refl _, eqBP_refl _, ⟨rfl, rfl, rfl, rfl, rfl⟩, eqBP_refl _, eqBP_refl _, eqBP_refl _, trivial⟩ ⟨trivial, rfl, rfl, rfl, rfl, trivial⟩⟩
    | true =>
      have hqg : q < g := hgs g r he (hbt rfl)
      conv => whnf
      refine sd_d (by omega) ?_
      conv => whnf
      refine idx_intro _ (hW1 _ (by omega) (by omega)) (by omega) (us_uni _) ?_
      conv => whnf
      refine sd_d (by omega) ?_
      conv => whnf
      have e1 : ((g : Int) - 1) % 18446744073709551616 = ((g - 1 : Nat) : Int) := by omega
      have e2 : ((r : Int) + (x : Int) % 18446744073709551616) % 18446744073709551616 = ((r + x : Nat) : Int) := by omega
      rw [e1, e2]
      have he' : (g - 1) * x + (r + x) = top := by
        have : g * x = (g - 1) * x + x := by
          conv => lhs; rw [show g = g - 1 + 1 by omega]
          rw [Nat.add_mul, Nat.one_mul]
        omega
      have sg2 := sh32 (g - 1)
      have sr2 := sh32 (r + x)
      refine cond_d (fun h5 => ?_) (fun h5 => ?_)
      · conv => whnf
        refine sd_d (by omega) ?_
        conv => whnf
        refine cond_e (fun h6 => ?_) (fun h6 => ?_) <;> conv => whnf
        · refine ⟨g - 1, ⟨by omega, ?_, by omega⟩, ?_⟩
          · exact hge (g - 1) (r + x) he' (by omega) (.inl (by omega))
          · exact weak_x ⟨eqBP_refl _, eqBP_refl _, ⟨rfl, rfl, rfl, rfl, rfl⟩, eqBP_refl _, eqBP_refl _, eqBP_refl _, trivial⟩ ⟨trivial, rfl, rfl, rfl, rfl, trivial⟩
        · refine ⟨(g - 1, r + x), ⟨he', by simp only; omega⟩, by simp only; omega, ?_⟩
          exact weak_x ⟨eqBP_refl _, eqBP_refl _, ⟨rfl, rfl, rfl, rfl, rfl⟩, eqBP_refl _, eqBP_refl _, eqBP_refl _, trivial⟩ ⟨trivial, rfl, rfl, rfl, rfl, rfl, trivial⟩
      · conv => whnf
        refine ⟨(g - 1, r + x), ⟨he', by simp only; omega⟩, by simp only; omega, ?_⟩
        exact weak_x ⟨eqBP_refl _, eqBP_refl _, ⟨rfl, rfl, rfl, rfl, rfl⟩, eqBP_refl _, eqBP_refl _, eqBP_refl _, trivial⟩ ⟨trivial, rfl, rfl, rfl, rfl, rfl, trivial⟩
end Go.Nv
end
section
namespace Go.Nv
open Go.Proofs Nw
set_option maxRecDepth 100000
set_option linter.unusedVariables false
set_option linter.unusedSimpArgs false
def dD (s k g V : Nat) : Nat := s + 4294967296 ^ (k + 1) - g * V
def dg3 (b0 b1 b3 b4 b5 : B) (m R V i k s g j : Nat) : St := ⟨fr 194 [(0, .own 2 0), (1, .d (.l (us (ln V)))), (2, .d (i64 i)), (7, .d (i64 k)), (9, .d (u64 g)), (11, .d (u64 (mulc g V j))), (12, .d (u32 (bor (s + 4294967296 ^ (k + 1)) (g * V) j))), (101, .d (.l (us (ln V)))), (102, .d (i64 k)), (103, .d (i64 j))], [b0, b1, .row 0 171 1 4 (us (dl m (mix R (dD s k g V) i j))), b3, b4, b5]⟩
theorem digit3 (b0 b1 b3 b4 b5 : B) {m R V i k s g : Nat} (h : Dg m R V i k s) (hg : g < 4294967296) {c : Code} (hc : Tryz.f300.body = some c) (K : Ex → St → Prop) :
    goL Tryz.prog tbl (fun t => false) (((fl c).drop 5).take 3) (dg2 b0 b1 b3 b4 b5 m R V i k g)
      (lpX (fun st' => ∃ j : Nat, j = k ∧ Weak st' (dg3 b0 b1 b3 b4 b5 m R V i k s g j)) K) := by
  have lv := h.lv
  have hk := h.hk
  have hm := h.hm
  have hms := h.hms
  have hP : g * V ≤ s + 4294967296 ^ (k + 1) := by
    have h1 : g * V ≤ 4294967296 * 4294967296 ^ k := Nat.mul_le_mul (by omega) (Nat.le_of_lt h.hV)
    rw [Nat.pow_succ, Nat.mul_comm (4294967296 ^ k)]
    omega
  cases hc
  conv => whnf
  refine loop_intro (fun t => false) (dg3 b0 b1 b3 b4 b5 m R V i k s g) (fun j => j ≤ k) (fun j => k - j) 0 mixed tOk (Nat.zero_le _) ?_ ?_
  · refine weak_x ⟨eqBP_refl _, eqBP_refl _, ⟨rfl, rfl, rfl, rfl, ?_⟩, eqBP_refl _, eqBP_refl _, eqBP_refl _, trivial⟩ ⟨trivial, rfl, rfl, ?_, ?_, ?_, ?_, rfl, ?_, rfl, trivial⟩
    · rw [mix_zero]
    · conv => whnf
    · conv => whnf
    · conv => whnf
      rw [mulc_zero]
      rfl
    · conv => whnf
      rw [bor_zero]
      rfl
    · conv => whnf
      rw [h.lv]
  · intro j hj
    have hru : (us (dl m (mix R (dD s k g V) i j))).length = m := by rw [us_length, dl_length]
    conv => whnf
    have hv := mlt (V / 4294967296 ^ j)
    have hu := mlt (s / 4294967296 ^ j)
    have hl := mulc_lt (V := V) (j := j) hg
    have hlow := mulc_low g V j
    have hhigh := mulc_high g V j
    have hy := mlt (g * V / 4294967296 ^ j)
    have hbo := bor_le (s + 4294967296 ^ (k + 1)) (g * V) j
    have hd := sub_dig (s + 4294967296 ^ (k + 1)) (g * V) j hP
    have hs := bor_step (s + 4294967296 ^ (k + 1)) (g * V) j
    have hU : (us (dl m (mix R (dD s k g V) i j)))[i + j]? = some (u32 ((s / 4294967296 ^ j % 4294967296 : Nat) : Int)) := by
      have := us_get (dl_get (m := m) (mix R (dD s k g V) i j) (i := i + j) (by omega))
      rwa [mix_get, Nat.pow_add, ← Nat.div_div_eq_div_mul, h.hs] at this
    rw [addB_dig hj] at hd hs
    generalize hmu : mulc g V j = mu at *
    refine cond_d (fun h2 => ?_) (fun h2 => ?_)
    · conv => whnf
      refine idx_intro _ (h.W j _ (by omega) (by omega)) (by omega) (us_uni _) ?_
      conv => whnf
      have hgv : ((g : Int) * ((((V / 4294967296 ^ j % 4294967296 : Nat) : Int)) % 18446744073709551616)) = ((g * (V / 4294967296 ^ j % 4294967296) : Nat) : Int) := by
        rw [show (((V / 4294967296 ^ j % 4294967296 : Nat) : Int)) % 18446744073709551616 = ((V / 4294967296 ^ j % 4294967296 : Nat) : Int) by omega]
        exact (Int.natCast_mul g _).symm
      have hacc : ((mu : Int) + (g : Int) * ((((V / 4294967296 ^ j % 4294967296 : Nat) : Int)) % 18446744073709551616) % 18446744073709551616) % 18446744073709551616 = ((mu + g * (V / 4294967296 ^ j % 4294967296) : Nat) : Int) := by
        rw [hgv]
        clear hlow hhigh hgv
        generalize g * (V / 4294967296 ^ j % 4294967296) = w at *
        omega
      rw [hacc]
      refine sd_d (by omega) ?_
      conv => whnf
      refine sd_d (by omega) ?_
      conv => whnf
      refine sd_du (by omega) (us_uni _) ?_
      conv => whnf
      refine rld_intro (i := i + j) (r := 0) _ _ hU (by omega) (by omega) (us_uni _) rfl ?_
      conv => whnf
      refine call_eq rfl rfl (sub32_c ((s / 4294967296 ^ j % 4294967296 : Nat) : Int) ((g * V / 4294967296 ^ j % 4294967296 : Nat) : Int) (bor (s + 4294967296 ^ (k + 1)) (g * V) j : Nat) (by omega) (by omega) (by omega)) ?_ ?_
      · conv => whnf
        have ha : (((mu + g * (V / 4294967296 ^ j % 4294967296) : Nat) : Int)) % 4294967296 = ((g * V / 4294967296 ^ j % 4294967296 : Nat) : Int) := by
          rw [← hlow]
          generalize mu + g * (V / 4294967296 ^ j % 4294967296) = w at *
          omega
        rw [ha]
        rfl
      conv => whnf
      refine sd_du (by omega) (us_uni _) ?_
      conv => whnf
      rw [show ((i : Int) + (j : Int)).toNat = i + j by omega, hd]
      refine rst_one (by omega) (us_val _) rfl ?_
      conv => whnf
      have sh := sh32 (mu + g * (V / 4294967296 ^ j % 4294967296))
      rw [hhigh] at sh
      refine sd_d (by omega) ?_
      conv => whnf
      refine sd_d (by omega) ?_
      conv => whnf
      refine ⟨j + 1, by omega, by omega, ?_⟩
      refine weak_x ⟨eqBP_refl _, eqBP_refl _, ⟨rfl, rfl, rfl, rfl, ?_⟩, eqBP_refl _, eqBP_refl _, eqBP_refl _, trivial⟩ ⟨trivial, rfl, rfl, rfl, rfl, ?_, ?_, rfl, rfl, rfl, trivial⟩
      · rw [← mix_set, us_set]
        rfl
      · conv => whnf
        rw [sh]
      · conv => whnf
        rw [hs]
        split <;> split <;> first | rfl | omega
    · conv => whnf
      refine ⟨j, by omega, ?_⟩
      exact weak_x ⟨eqBP_refl _, eqBP_refl _, ⟨rfl, rfl, rfl, rfl, rfl⟩, eqBP_refl _, eqBP_refl _, eqBP_refl _, trivial⟩ ⟨trivial, rfl, rfl, rfl, rfl, by rw [hmu]; rfl, rfl, rfl, rfl, rfl, trivial⟩
end Go.Nv
end
section
namespace Go.Nv
open Go.Proofs Nw
set_option maxRecDepth 100000
set_option linter.unusedVariables false
set_option linter.unusedSimpArgs false
def dg4 (b0 b1 b3 b4 b5 : B) (m R V i k s g : Nat) (_ : Unit) : St := ⟨fr 194 [(0, .own 2 0), (1, .d (.l (us (ln V)))), (2, .d (i64 i)), (7, .d (i64 k)), (9, .d (u64 g)), (12, .d (u32 (bor (s + 4294967296 ^ (k + 1)) (g * V) (k + 1))))], [b0, b1, .row 0 171 1 4 (us (dl m (mix R (dD s k g V) i (k + 1)))), b3, b4, b5]⟩
theorem digit4 (b0 b1 b3 b4 b5 : B) {m R V i k s g : Nat} (h : Dg m R V i k s) (hg : g < 4294967296) {c : Code} (hc : Tryz.f300.body = some c) (K : Ex → St → Prop) :
    goL Tryz.prog tbl (fun t => false) (((fl c).drop 8).take 1) (dg3 b0 b1 b3 b4 b5 m R V i k s g k)
      (lpX (fun st' => ∃ u : Unit, True ∧ Weak st' (dg4 b0 b1 b3 b4 b5 m R V i k s g u)) K) := by
  have lv := h.lv
  have hk := h.hk
  have hm := h.hm
  have hms := h.hms
  have hP : g * V ≤ s + 4294967296 ^ (k + 1) := Nat.le_of_lt (Nat.lt_of_lt_of_le (gV_lt hg h.hV) (Nat.le_add_left _ _))
  have hru : (us (dl m (mix R (dD s k g V) i k))).length = m := by rw [us_length, dl_length]
  have hu := mlt (s / 4294967296 ^ k)
  have hmu : mulc g V k = g * V / 4294967296 ^ k % 4294967296 := by
    have := mulc_le g V k
    rw [← mulc_end h.hV]
    omega
  have hy := mlt (g * V / 4294967296 ^ k)
  have hbo := bor_le (s + 4294967296 ^ (k + 1)) (g * V) k
  have hd := sub_dig (s + 4294967296 ^ (k + 1)) (g * V) k hP
  have hs := bor_step (s + 4294967296 ^ (k + 1)) (g * V) k
  have hU : (us (dl m (mix R (dD s k g V) i k)))[i + k]? = some (u32 ((s / 4294967296 ^ k % 4294967296 : Nat) : Int)) := by
    have := us_get (dl_get (m := m) (mix R (dD s k g V) i k) (i := i + k) (by omega))
    rwa [mix_get, Nat.pow_add, ← Nat.div_div_eq_div_mul, h.hs] at this
  rw [addB_dig (Nat.le_refl k)] at hd hs
  cases hc
  conv => whnf
  refine sd_d (by omega) ?_
  conv => whnf
  refine sd_d (by omega) ?_
  conv => whnf
  refine sd_du (by omega) (us_uni _) ?_
  conv => whnf
  refine rld_intro (i := i + k) (r := 0) _ _ hU (by omega) (by omega) (us_uni _) rfl ?_
  conv => whnf
  rw [hmu]
  refine call_eq rfl rfl (sub32_c ((s / 4294967296 ^ k % 4294967296 : Nat) : Int) ((g * V / 4294967296 ^ k % 4294967296 : Nat) : Int) (bor (s + 4294967296 ^ (k + 1)) (g * V) k : Nat) (by omega) (by omega) (by omega)) ?_ ?_
  · conv => whnf
    have ha : ((g * V / 4294967296 ^ k % 4294967296 : Nat) : Int) % 4294967296 = ((g * V / 4294967296 ^ k % 4294967296 : Nat) : Int) := by omega
    rw [ha]
    rfl
  conv => whnf
  refine sd_du (by omega) (us_uni _) ?_
  conv => whnf
  rw [show ((i : Int) + (k : Int)).toNat = i + k by omega, hd]
  refine rst_one (by omega) (us_val _) rfl ?_
  conv => whnf
  refine ⟨(), trivial, ?_⟩
  refine weak_x ⟨eqBP_refl _, eqBP_refl _, ⟨rfl, rfl, rfl, rfl, ?_⟩, eqBP_refl _, eqBP_refl _, eqBP_refl _, trivial⟩ ⟨trivial, rfl, rfl, rfl, rfl, ?_, trivial⟩
  · rw [← mix_set, us_set]
    rfl
  · conv => whnf
    rw [hs]
    split <;> split <;> first | rfl | omega
end Go.Nv
end
