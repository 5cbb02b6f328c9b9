import Derived.Test.YtdjbkccoofcnjaaGreatNvD5
set_option linter.all false
set_option linter.unusedVariables false
set_option linter.unusedSimpArgs false
section
namespace Go.Nv
open Go.Proofs Nw
set_option maxRecDepth 100000
set_option linter.unusedVariables false
set_option linter.unusedSimpArgs false
theorem fine_ix {c r i s t : Int} (hc : 1 ≤ c ∧ c ≤ 3) (hr : 1 ≤ r ∧ r ≤ 3) (hi : 0 ≤ i) (hlt : i < c * r) (hs : 0 ≤ s ∧ s ≤ 1) (ht : 0 ≤ t ∧ t ≤ 1) :
    0 ≤ Int.tdiv i c ∧ Int.tdiv i c ≤ 2 ∧ 0 ≤ Int.tmod i c ∧ Int.tmod i c ≤ 2 ∧ (∃ J : Nat, (J : Int) = (2 * Int.tdiv i c + s) * (2 * c) + (2 * Int.tmod i c + t) ∧ (2 * Int.tdiv i c + s) * 2 * c + (2 * Int.tmod i c + t) = (J : Int) ∧ J < (2 * c).toNat * (2 * r).toNat ∧ 0 ≤ (2 * Int.tdiv i c + s) * 2 * c ∧ (2 * Int.tdiv i c + s) * 2 * c ≤ 36) := by
  have m0 := Int.tmod_nonneg (b := c) (a := i) hi
  have m1 := Int.tmod_lt_of_pos i (b := c) (by omega)
  have q0 : 0 ≤ Int.tdiv i c := Int.tdiv_nonneg (by omega) (by omega)
  have q1 : Int.tdiv i c < r := by
    rw [Int.tdiv_eq_ediv_of_nonneg (by omega)]
    exact Int.ediv_lt_of_lt_mul (by omega) (by rw [Int.mul_comm]; exact hlt)
  refine ⟨q0, by omega, m0, by omega, ?_⟩
  generalize Int.tdiv i c = q at *
  generalize Int.tmod i c = m at *
  have e1 : (2 * q + s) * 2 * c = (2 * q + s) * (2 * c) := by rw [Int.mul_assoc]
  have n1 : 0 ≤ (2 * q + s) * (2 * c) := Int.mul_nonneg (by omega) (by omega)
  have n2 : (2 * q + s) * (2 * c) ≤ (2 * r - 1) * (2 * c) := Int.mul_le_mul_of_nonneg_right (by omega) (by omega)
  have n3 : (2 * r - 1) * (2 * c) = (2 * c) * (2 * r) - 2 * c := by rw [Int.sub_mul, Int.mul_comm (2 * r)]; omega
  refine ⟨((2 * q + s) * (2 * c) + (2 * m + t)).toNat, by rw [Int.toNat_of_nonneg (by omega)], by rw [Int.toNat_of_nonneg (by omega), e1], ?_⟩
  have n4 : (((2 * c).toNat * (2 * r).toNat : Nat) : Int) = (2 * c) * (2 * r) := by rw [Int.natCast_mul, Int.toNat_of_nonneg (by omega), Int.toNat_of_nonneg (by omega)]
  have n5 : (2 * c) * (2 * r) ≤ 6 * 6 := Int.mul_le_mul (by omega) (by omega) (by omega) (by omega)
  rw [e1]
  omega
theorem qm_get {g : Nat → Rat} {N : Nat} {x : Int} {J : Nat} (h : x = (J : Int)) (hJ : J < N) : (qL ((List.range N).map g))[x.toNat]? = some (ratD (g J)) := by
  rw [h, Int.toNat_natCast]; simp [hJ]
@[irreducible] def sBd : Nat := 200000000
theorem sBd_eq : sBd = 200000000 := by unfold sBd; rfl
theorem snum {m N w : Nat} (h : m ≤ 1024) (hN : N ≤ 192746) (hw : w = 200000000) : m * N + 1 ≤ w := by
  have h1 := Nat.mul_le_mul h hN
  rw [hw]
  omega
theorem wiQ_sharp {x0 y0 x1 y1 : Rat} {l : List P2} {n k : Nat} (h0 : Bd k x0) (h1 : Bd k y0) (h2 : Bd k x1) (h3 : Bd k y1) (hl : ∀ p ∈ l, BP n p) (hn : n ≤ 12) (hk : k ≤ 40) (hlen : l.length ≤ 64) : Bd sBd (wiQ x0 y0 x1 y1 l) := by
  have a1 := cut_bp (H := ⟨true, true, x0⟩) h0 hl
  have a2 := cut_bp (H := ⟨true, false, x1⟩) h2 a1
  have a3 := cut_bp (H := ⟨false, true, y0⟩) h1 a2
  have a4 := cut_bp (H := ⟨false, false, y1⟩) h3 a3
  have l1 := cut_len ⟨true, true, x0⟩ l
  have l2 := cut_len ⟨true, false, x1⟩ (cut ⟨true, true, x0⟩ l)
  have l3 := cut_len ⟨false, true, y0⟩ (cut ⟨true, false, x1⟩ (cut ⟨true, true, x0⟩ l))
  have l4 := cut_len ⟨false, false, y1⟩ (cut ⟨false, true, y0⟩ (cut ⟨true, false, x1⟩ (cut ⟨true, true, x0⟩ l)))
  have pts : ∀ p ∈ box4 x0 y0 x1 y1 l, BP 48186 p := fun p hp => (a4 p hp).mono (by omega)
  have len : (box4 x0 y0 x1 y1 l).length ≤ 1024 := by unfold box4; omega
  have b1 := area_bd pts _ (Nat.le_refl _)
  rw [tot_all] at b1
  exact (b1.div (bd_int 2 (n := 1) (by decide))).mono (snum len (by decide) sBd_eq)
theorem cvS_sharp {x0 y0 x1 y1 : Rat} {o : List P2} {hs : List (List P2)} (ho : Bd sBd (wiQ x0 y0 x1 y1 o)) (hh : ∀ h ∈ hs, Bd sBd (wiQ x0 y0 x1 y1 h)) : ∀ i, i ≤ hs.length → Bd ((i + 1) * (sBd + 1)) (cvS x0 y0 x1 y1 o (hs.take i))
  | 0, _ => by
    show Bd _ (wiQ x0 y0 x1 y1 o)
    exact ho.mono (by omega)
  | i + 1, h => by
    rw [cvS_take h]
    exact ((cvS_sharp ho hh i (by omega)).sub (hh _ (List.getElem_mem h))).mono (by rw [Nat.add_mul (i + 1) 1]; omega)
theorem cvQ_sharp {x0 y0 x1 y1 : Rat} {o : List P2} {hs : List (List P2)} {n k : Nat} (h0 : Bd k x0) (h1 : Bd k y0) (h2 : Bd k x1) (h3 : Bd k y1) (hl : ∀ p ∈ o, BP n p) (hhl : ∀ h ∈ hs, (∀ p ∈ h, BP n p) ∧ h.length ≤ 64) (hn : n ≤ 12) (hk : k ≤ 40) (hlen : o.length ≤ 64) (hhs : hs.length ≤ 8) :
    Bd 2000000000 (cvQ x0 y0 x1 y1 o hs) := by
  have hb := cvS_sharp (wiQ_sharp h0 h1 h2 h3 hl hn hk hlen) (fun h hh => wiQ_sharp h0 h1 h2 h3 (hhl h hh).1 hn hk (hhl h hh).2) hs.length (Nat.le_refl _)
  rw [List.take_length] at hb
  have hm : (hs.length + 1) * (sBd + 1) ≤ 9 * (sBd + 1) := Nat.mul_le_mul_right _ (by omega)
  have he := sBd_eq
  have bd : Bd (4 * k + 2) ((x1 - x0) * (y1 - y0)) := ((h2.sub h0).mul (h3.sub h1)).mono (by omega)
  exact (hb.div bd).mono (by omega)
theorem den_nil2 {W : World} {ok : Nat → Prop} {l : List D} {xs : List D} {us : List Value} (h : DenL W ok (.a [.l l, nilD] :: xs) us) : DenL W ok (.a [.l l, .l []] :: xs) us := by
  cases us with
  | nil => have := h.1; simp at this
  | cons u us =>
    refine ⟨by simpa using h.1, fun i c u' hc hu => ?_⟩
    cases i with
    | zero =>
      simp at hc hu; subst hc; subst hu
      have h0 := h.2 0 _ _ rfl rfl
      cases h0 with
      | a h1 h2 h3 =>
        refine .a h1 (fun i c u hc hu => ?_) h3
        match i with
        | 0 => simp at hc; subst hc; exact h2 0 _ _ rfl hu
        | 1 => simp at hc; subst hc; exact den_nil (h2 1 _ _ rfl hu)
        | i + 2 => simp at hc
    | succ i => exact h.2 (i + 1) c u' (by simpa using hc) hu
set_option maxHeartbeats 4000000 in
theorem law3b (hA : Fun Tryz.prog 12 [] [.v (.bool true)]) {o : List (RD × RD)} {hs : List (List (RD × RD))} {x0 y0 x1 y1 : Rat} {c r : Int} {n : Nat} (hpo : PgOk o hs n) (hn : n ≤ 100) (h0 : Bd n x0) (h1 : Bd n y0) (h2 : Bd n x1) (h3 : Bd n y1)
    (hx : x0 < x1) (hy : y0 < y1) (hcr : 1 ≤ c ∧ c ≤ 3) (hrr : 1 ≤ r ∧ r ≤ 3) (hp : pgE o hs = 0)
    (h : (g22 o hs || gtT [(canon x0, canon y0), (canon x1, canon y1)] c r) = false) (hbd : ∀ j : Nat, (j : Int) < 2 * c * (2 * r) → Bd 2000000000 (cvP x0 y0 x1 y1 (2 * c) (2 * r) (o.map vP) (hs.map (List.map vP)) j)) :
    Fun Tryz.prog 3 [pgR o hs, quD x0 y0 x1 y1, i64 c, i64 r] [.v (.bool true)] := by
  have hg := greatP_c o hs [(canon x0, canon y0), (canon x1, canon y1)] (by simp) c r
  rw [h, show (([(canon x0, canon y0), (canon x1, canon y1)] : List (RD × RD)).map fun p => ptR p.1 p.2) = [pR (cP (x0, y0)), pR (cP (x1, y1))] from rfl, pR_cP, pR_cP] at hg
  have k1 := cover_c hpo hn h0 h1 h2 h3 hx hy hp (c := c) (r := r) (by omega) (by omega)
  have k2 := cover_c hpo hn h0 h1 h2 h3 hx hy hp (c := 2 * c) (r := 2 * r) (by omega) (by omega)
  have hmean : ∀ i j0 j1 j2 j3 e0 e1 e2 e3, _ := fun i j0 j1 j2 j3 e0 e1 e2 e3 => cvP_mean (x0 := x0) (y0 := y0) (x1 := x1) (y1 := y1) (c := c) (r := r) hx hy (by omega) (by omega) (o.map vP) (hs.map (List.map vP)) (i := i) (j0 := j0) (j1 := j1) (j2 := j2) (j3 := j3) e0 e1 e2 e3
  generalize cvP x0 y0 x1 y1 c r (o.map vP) (hs.map (List.map vP)) = g at *
  generalize cvP x0 y0 x1 y1 (2 * c) (2 * r) (o.map vP) (hs.map (List.map vP)) = f at *
  have w1 : wr64 (2 * c) = 2 * c := wr64_id (by omega)
  have w2 : wr64 (2 * r) = 2 * r := wr64_id (by omega)
  have l1 : (qL ((List.range (c.toNat * r.toNat)).map g)).length = c.toNat * r.toNat := by simp
  have l2 : (qL ((List.range ((2 * c).toNat * (2 * r).toNat)).map f)).length = (2 * c).toNat * (2 * r).toNat := by simp
  have kN : ((c.toNat * r.toNat : Nat) : Int) = c * r := by rw [Int.natCast_mul, Int.toNat_of_nonneg (by omega), Int.toNat_of_nonneg (by omega)]
  have kM : (((2 * c).toNat * (2 * r).toNat : Nat) : Int) = (2 * c) * (2 * r) := by rw [Int.natCast_mul, Int.toNat_of_nonneg (by omega), Int.toNat_of_nonneg (by omega)]
  have kNM : (2 * c) * (2 * r) = 4 * (c * r) := by rw [Int.mul_assoc, Int.mul_left_comm c, ← Int.mul_assoc]; omega
  have kp : 0 < c * r ∧ c * r ≤ 9 := ⟨Int.mul_pos (by omega) (by omega), Int.mul_le_mul hcr.2 hrr.2 (by omega) (by omega)⟩
  refine fun_of_go (fun t => t == 13 || t == 16 || t == 17 || t == 21) mixed tOk Tryz.func3 rfl rfl ?_
  conv => whnf
  refine call_data rfl rfl hg ?_
  conv => whnf
  refine cond_df (by omega) ?_
  conv => whnf
  refine cond_df (by omega) ?_
  conv => whnf
  refine call_data rfl rfl k1 ?_
  conv => whnf
  refine call_eq rfl rfl k2 ?_ ?_
  · rw [w1, w2]; rfl
  conv => whnf
  refine cond_bf (by decide) ?_
  conv => whnf
  refine cond_bf (by decide) ?_
  conv => whnf
  refine cond_df (by omega) ?_
  conv => whnf
  refine cond_df (by omega) ?_
  conv => whnf
  refine sd_d (by omega) ?_
  conv => whnf
  refine cond_ne (fun hh => absurd (by rw [l1, kN]) hh) (fun _ => ?_)
  conv => whnf
  refine sd_d (by omega) ?_
  conv => whnf
  refine cond_ne (fun hh => absurd (by rw [l1, l2]; omega) hh) (fun _ => ?_)
  conv => whnf
  have h14 := ratio_r 1 4 (by omega) (by omega)
  refine call_data rfl rfl h14 ?_
  conv => whnf
  have hf4 : Rat.divInt 1 4 = (1 / 4 : Rat) := by rw [Rat.divInt_eq_div]; rfl
  rw [hf4]
  refine loop_intro (fun t => t == 13 || t == 16 || t == 17 || t == 21) (fun i : Nat => ⟨fr 174 [(2, .d (i64 c)), (3, .d (i64 r)), (5, .d (.p 0 (quD x0 y0 x1 y1).cells)), (9, .d (.l (qL ((List.range (c.toNat * r.toNat)).map g)))), (11, .d (.l (qL ((List.range ((2 * c).toNat * (2 * r).toNat)).map f)))), (13, .ptr 0 0 0),
      (93, .d (.l (qL ((List.range (c.toNat * r.toNat)).map g)))), (94, .d (i64 (qL ((List.range (c.toNat * r.toNat)).map g)).length)), (95, .d (i64 i))], [.box 27 ((ratD (1 / 4)).cells.map .d)]⟩) (fun i => i ≤ c.toNat * r.toNat) (fun i => c.toNat * r.toNat - i) 0 mixed tOk (by omega) ?_ ?_
  · refine weak_r ?_ ?_ <;> repeat' (first | exact trivial | exact rfl | refine And.intro ?_ ?_)
  · intro i hi
    conv => whnf
    refine cond_d (fun hlt => ?_) (fun hge => ?_)
    · have hlt' : i < c.toNat * r.toNat := by omega
      have hic : (i : Int) < c * r := by omega
      obtain ⟨q0, q1, m0, m1, J0, e0, i0, b0, u0, v0⟩ := fine_ix (s := 0) (t := 0) hcr hrr (Int.natCast_nonneg i) hic (by omega) (by omega)
      obtain ⟨_, _, _, _, J1, e1, i1, b1, u1, v1⟩ := fine_ix (s := 0) (t := 1) hcr hrr (Int.natCast_nonneg i) hic (by omega) (by omega)
      obtain ⟨_, _, _, _, J2, e2, i2, b2, u2, v2⟩ := fine_ix (s := 1) (t := 0) hcr hrr (Int.natCast_nonneg i) hic (by omega) (by omega)
      obtain ⟨_, _, _, _, J3, e3, i3, b3, u3, v3⟩ := fine_ix (s := 1) (t := 1) hcr hrr (Int.natCast_nonneg i) hic (by omega) (by omega)
      have hme := hmean i J0 J1 J2 J3 (by rw [e0]; simp) (by rw [e1]; simp) (by rw [e2]; simp) (by rw [e3])
      conv => whnf
      refine idx_intro (ratD (g i)) (qm_get rfl hlt') (by omega) (qL_uni _) ?_
      conv => whnf
      refine call_data rfl rfl (of_r 0 (by omega)) ?_
      conv => whnf
      refine unroll 5 (fun t => t == 13 || t == 16 || t == 17 || t == 21) mixed tOk ?_
      conv => whnf
      have w3 : wr64 (2 * Int.tdiv (i : Int) c) = 2 * Int.tdiv (i : Int) c := wr64_id (by omega)
      have w4 : wr64 (2 * Int.tmod (i : Int) c) = 2 * Int.tmod (i : Int) c := wr64_id (by omega)
      have f0 := hbd J0 (by omega)
      have f1 := hbd J1 (by omega)
      have f2 := hbd J2 (by omega)
      have f3 := hbd J3 (by omega)
      have s0 : Bd 0 ((0 : Int) : Rat) := bd_int 0 (by simp)
      have s1 := s0.add f0
      have s2 := s1.add f1
      have s3 := s2.add f2
      have s4 := s3.add f3
      refine cond_dt (by decide) ?_
      conv => whnf
      refine sd_dd (by omega) (by omega) ?_
      conv => whnf
      refine sd_dd (by decide) (by decide) ?_
      conv => whnf
      rw [w3, show Int.tdiv (0) 2 = 0 from rfl]
      refine sd_d (by omega) ?_
      conv => whnf
      refine sd_d (by omega) ?_
      conv => whnf
      refine sd_d (by decide) ?_
      conv => whnf
      rw [w4, show Int.tmod (0) 2 = 0 from rfl]
      refine sd_d (by omega) ?_
      conv => whnf
      refine safe_intro (by kernel_rfl) ?_
      conv => whnf
      refine sd_d (by omega) ?_
      conv => whnf
      refine sd_d (by omega) ?_
      conv => whnf
      refine sd_d (by omega) ?_
      conv => whnf
      refine idx_intro (ratD (f J0)) (qm_get i0 b0) (by omega) (qL_uni _) ?_
      conv => whnf
      refine callv_data (add_q (.mk s0 (by omega)) (.mk f0 (by omega))) ?_
      conv => whnf
      refine safe_intro (by kernel_rfl) ?_
      conv => whnf
      refine sd_d (by omega) ?_
      conv => whnf
      refine cond_dt (by decide) ?_
      conv => whnf
      refine sd_dd (by omega) (by omega) ?_
      conv => whnf
      refine sd_dd (by decide) (by decide) ?_
      conv => whnf
      rw [w3, show Int.tdiv (0 + 1) 2 = 0 from rfl]
      refine sd_d (by omega) ?_
      conv => whnf
      refine sd_d (by omega) ?_
      conv => whnf
      refine sd_d (by decide) ?_
      conv => whnf
      rw [w4, show Int.tmod (0 + 1) 2 = 1 from rfl]
      refine sd_d (by omega) ?_
      conv => whnf
      refine safe_intro (by kernel_rfl) ?_
      conv => whnf
      refine sd_d (by omega) ?_
      conv => whnf
      refine sd_d (by omega) ?_
      conv => whnf
      refine sd_d (by omega) ?_
      conv => whnf
      refine idx_intro (ratD (f J1)) (qm_get i1 b1) (by omega) (qL_uni _) ?_
      conv => whnf
      refine callv_data (add_q (.mk s1 (by omega)) (.mk f1 (by omega))) ?_
      conv => whnf
      refine safe_intro (by kernel_rfl) ?_
      conv => whnf
      refine sd_d (by omega) ?_
      conv => whnf
      refine cond_dt (by decide) ?_
      conv => whnf
      refine sd_dd (by omega) (by omega) ?_
      conv => whnf
      refine sd_dd (by decide) (by decide) ?_
      conv => whnf
      rw [w3, show Int.tdiv (0 + 1 + 1) 2 = 1 from rfl]
      refine sd_d (by omega) ?_
      conv => whnf
      refine sd_d (by omega) ?_
      conv => whnf
      refine sd_d (by decide) ?_
      conv => whnf
      rw [w4, show Int.tmod (0 + 1 + 1) 2 = 0 from rfl]
      refine sd_d (by omega) ?_
      conv => whnf
      refine safe_intro (by kernel_rfl) ?_
      conv => whnf
      refine sd_d (by omega) ?_
      conv => whnf
      refine sd_d (by omega) ?_
      conv => whnf
      refine sd_d (by omega) ?_
      conv => whnf
      refine idx_intro (ratD (f J2)) (qm_get i2 b2) (by omega) (qL_uni _) ?_
      conv => whnf
      refine callv_data (add_q (.mk s2 (by omega)) (.mk f2 (by omega))) ?_
      conv => whnf
      refine safe_intro (by kernel_rfl) ?_
      conv => whnf
      refine sd_d (by omega) ?_
      conv => whnf
      refine cond_dt (by decide) ?_
      conv => whnf
      refine sd_dd (by omega) (by omega) ?_
      conv => whnf
      refine sd_dd (by decide) (by decide) ?_
      conv => whnf
      rw [w3, show Int.tdiv (0 + 1 + 1 + 1) 2 = 1 from rfl]
      refine sd_d (by omega) ?_
      conv => whnf
      refine sd_d (by omega) ?_
      conv => whnf
      refine sd_d (by decide) ?_
      conv => whnf
      rw [w4, show Int.tmod (0 + 1 + 1 + 1) 2 = 1 from rfl]
      refine sd_d (by omega) ?_
      conv => whnf
      refine safe_intro (by kernel_rfl) ?_
      conv => whnf
      refine sd_d (by omega) ?_
      conv => whnf
      refine sd_d (by omega) ?_
      conv => whnf
      refine sd_d (by omega) ?_
      conv => whnf
      refine idx_intro (ratD (f J3)) (qm_get i3 b3) (by omega) (qL_uni _) ?_
      conv => whnf
      refine callv_data (add_q (.mk s3 (by omega)) (.mk f3 (by omega))) ?_
      conv => whnf
      refine safe_intro (by kernel_rfl) ?_
      conv => whnf
      refine sd_d (by omega) ?_
      conv => whnf
      refine cond_df (by decide) ?_
      conv => whnf
      have q14 : Bd 1 (1 / 4 : Rat) := by
        have := (bd_int 1 (n := 0) (by simp)).div (bd_int 4 (n := 1) (by decide))
        exact this
      have km := mul_q (.mk s4 (by omega)) (.mk q14 (by omega))
      rw [show ((((0 : Int) : Rat) + f J0 + f J1 + f J2 + f J3) * (1 / 4)) = g i by rw [Rat.intCast_zero]; exact hme] at km
      refine callv_data km ?_
      conv => whnf
      refine safe_intro (by kernel_rfl) ?_
      conv => whnf
      refine cond_bf (nq _) ?_
      conv => whnf
      refine sd_d (by omega) ?_
      conv => whnf
      refine ⟨i + 1, by omega, by omega, ?_⟩
      rw [Int.natCast_succ]
      refine weak_dead 1 rfl (weak_dead 2 rfl ?_)
      refine weak_r ?_ ?_ <;> repeat' (first | exact trivial | exact rfl | refine And.intro ?_ ?_)
    · have : i = c.toNat * r.toNat := by omega
      subst this
      have kw := cover_c (o := (rct x0 y0 x1 y1).map cP) (hs := []) (n := n) ⟨by simp [rct], by simp, fun p hp => by
          obtain ⟨q, hq, rfl⟩ := List.mem_map.1 hp
          rw [vP_cP]
          have : BP n q := by
            simp only [rct, List.mem_cons, List.not_mem_nil, or_false] at hq
            rcases hq with rfl | rfl | rfl | rfl
            · exact ⟨h0, h1⟩
            · exact ⟨h2, h1⟩
            · exact ⟨h2, h3⟩
            · exact ⟨h0, h3⟩
          exact ⟨this, this.szp (by omega)⟩, by simp, by simp⟩ hn h0 h1 h2 h3 hx hy (rct_pg hx hy) (c := c) (r := r) (by omega) (by omega)
      rw [show pgR ((rct x0 y0 x1 y1).map cP) [] = .a [.l (pL (rct x0 y0 x1 y1)), .l []] by unfold pgR; rw [rL_cP]; rfl, vP_map, List.map_nil] at kw
      have kw2 : Fun Tryz.prog 13 [.a [.l (pL (rct x0 y0 x1 y1)), nilD], quD x0 y0 x1 y1, i64 c, i64 r] [.l (qL ((List.range (c.toNat * r.toNat)).map (cvP x0 y0 x1 y1 c r (rct x0 y0 x1 y1) []))), i64 0] :=
        fun_arg kw fun _ _ _ hh => den_nil2 hh
      have kones : ∀ x ∈ (List.range (c.toNat * r.toNat)).map (cvP x0 y0 x1 y1 c r (rct x0 y0 x1 y1) []), x = 1 := fun x hx' => by
        obtain ⟨j, hj, rfl⟩ := List.mem_map.1 hx'
        have : j < c.toNat * r.toNat := by simpa using hj
        exact cvP_whole hx hy (by omega) (by omega) (by omega)
      have klen : ((List.range (c.toNat * r.toNat)).map (cvP x0 y0 x1 y1 c r (rct x0 y0 x1 y1) [])).length = c.toNat * r.toNat := by simp
      generalize (List.range (c.toNat * r.toNat)).map (cvP x0 y0 x1 y1 c r (rct x0 y0 x1 y1) []) = ones at *
      have kc := contains18 (f := 19) (cap := []) (fun q => !decide (q = 1)) ones (by omega) (fun q hq => ref1_c q (by rw [kones q hq]; exact .mk (bd_int 1 (n := 0) (by simp)) (by omega)))
      rw [show ones.any (fun q => !decide (q = 1)) = false by rw [List.any_eq_false]; intro q hq; rw [kones q hq]; decide] at kc
      conv => whnf
      refine call_data rfl rfl kw2 ?_
      conv => whnf
      refine cond_bt (by decide) ?_
      conv => whnf
      refine call_data rfl rfl kc ?_
      conv => whnf
      refine call_data rfl rfl hA ?_
      conv => whnf
      exact ⟨rfl, trivial⟩
end Go.Nv
end
section
namespace Go.Nv
open Go.Proofs Nw
set_option maxRecDepth 100000
set_option linter.unusedVariables false
set_option linter.unusedSimpArgs false
theorem gtP_ok {p : RD × RD} (h : gtP p = false) : BP 12 (vP p) ∧ SzP p := by
  unfold gtP at h
  rw [Bool.or_eq_false_iff] at h
  exact ⟨⟨gtR_bd h.1, gtR_bd h.2⟩, gtR_sz h.1, gtR_sz h.2⟩
theorem g22_ok {o : List (RD × RD)} {hs : List (List (RD × RD))} (h : g22 o hs = false) : PgOk o hs 12 := by
  unfold g22 at h
  rw [Bool.or_eq_false_iff] at h
  have g := g11_f h.1
  exact ⟨by have := g.lo; omega, by have := g.lh; omega, fun p hp => gtP_ok (g.ob p hp), fun x hx p hp => gtP_ok (g.hb x hx p hp), fun x hx => by have := g.hl x hx; omega⟩
theorem cover_any {o : List (RD × RD)} {hs : List (List (RD × RD))} (h : PgOk o hs 12) {a b c d : RD} (ga : gtR a = false) (gb : gtR b = false) (gc : gtR c = false) (gd : gtR d = false) (m k : Int) :
    ∃ xs f, Fun Tryz.prog 13 [pgR o hs, quR a b c d, i64 m, i64 k] [.l xs, i64 f] ∧ (f = 0 → 1 ≤ m ∧ m ≤ 128 ∧ 1 ≤ k ∧ k ≤ 128 ∧ pgE o hs = 0 ∧ a.val < c.val ∧ b.val < d.val ∧ (canon a.val = a ∧ canon b.val = b ∧ canon c.val = c ∧ canon d.val = d)) := by
  have ha := gtR_sz ga
  have hb := gtR_sz gb
  have hc := gtR_sz gc
  have hd := gtR_sz gd
  cases hw : vbB a b c d with
  | false => exact ⟨_, _, cover_x h (by omega) a b c d ha hb hc hd hw m k, fun hh => absurd hh (by decide)⟩
  | true =>
    unfold vbB at hw
    obtain ⟨w1, w2, w3, w4⟩ := of_decide_eq_true hw
    rw [okP_zero] at w1 w2
    have ba := gtR_bd ga
    have bb := gtR_bd gb
    have bc := gtR_bd gc
    have bd := gtR_bd gd
    have eq1 : quR a b c d = quD a.val b.val c.val d.val := by rw [quD_eq, w1.1, w1.2, w2.1, w2.2]
    rw [eq1]
    by_cases hp : pgE o hs = 0
    · by_cases hz : m < 1 ∨ m > 128 ∨ k < 1 ∨ k > 128
      · exact ⟨_, _, cover_s h (by omega) (.mk ba (by omega)) (.mk bb (by omega)) (.mk bc (by omega)) (.mk bd (by omega)) w3 w4 hp m k (by unfold gcE; rw [if_pos hz]), fun hh => absurd hh (by decide)⟩
      · exact ⟨_, _, cover_c h (by omega) ba bb bc bd w3 w4 hp (by omega) (by omega), fun _ => ⟨by omega, by omega, by omega, by omega, hp, w3, w4, w1.1, w1.2, w2.1, w2.2⟩⟩
    · exact ⟨_, _, cover_p h (by omega) (.mk ba (by omega)) (.mk bb (by omega)) (.mk bc (by omega)) (.mk bd (by omega)) w3 w4 hp m k, fun hh => absurd hh (by decide)⟩
theorem cvP_sharp {o : List (RD × RD)} {hs : List (List (RD × RD))} (h : PgOk o hs 12) (hp : pgE o hs = 0) {x0 y0 x1 y1 : Rat} (h0 : Bd 12 x0) (h1 : Bd 12 y0) (h2 : Bd 12 x1) (h3 : Bd 12 y1) {c r : Int} (hcr : 1 ≤ c ∧ c ≤ 128) (hrr : 1 ≤ r ∧ r ≤ 128) (j : Nat) (hj : (j : Int) < c * r) :
    Bd 2000000000 (cvP x0 y0 x1 y1 c r (o.map vP) (hs.map (List.map vP)) j) := by
  obtain ⟨z1, z2, z3, z4⟩ := pgE_zero hp
  obtain ⟨o1, o2, o3, o4⟩ := rgR_zero z1
  have ob : ∀ p ∈ o.map vP, BP 12 p := fun p hp => by obtain ⟨q, hq, rfl⟩ := List.mem_map.1 hp; exact (h.ob q hq).1
  have hb : ∀ x ∈ hs.map (List.map vP), (∀ p ∈ x, BP 12 p) ∧ x.length ≤ 64 := fun x hx => by
    obtain ⟨q, hq, rfl⟩ := List.mem_map.1 hx
    refine ⟨fun p hp => by obtain ⟨r, hr, rfl⟩ := List.mem_map.1 hp; exact (h.hb q hq r hr).1, ?_⟩
    have := rgR_zero (z2 q hq)
    rw [List.length_map]; omega
  have ol : (o.map vP).length = o.length := List.length_map ..
  have hhl : (hs.map (List.map vP)).length = hs.length := List.length_map ..
  have d1 := Int.tmod_nonneg (b := c) (a := (j : Int)) (by omega)
  have d2 := Int.tmod_lt_of_pos (j : Int) (b := c) (by omega)
  have d3 : 0 ≤ Int.tdiv (j : Int) c := Int.tdiv_nonneg (by omega) (by omega)
  have d4 : Int.tdiv (j : Int) c < r := by
    rw [Int.tdiv_eq_ediv_of_nonneg (by omega)]
    exact Int.ediv_lt_of_lt_mul (by omega) (by rw [Int.mul_comm]; exact hj)
  have p1 : Bd 40 (pxX x0 x1 c (Int.tmod j c)) := (pxX_bd h0 h2 (by omega) (by omega)).mono (by omega)
  have p2 : Bd 40 (pxY y0 y1 r (Int.tdiv j c + 1)) := (pxY_bd h1 h3 (by omega) (by omega)).mono (by omega)
  have p3 : Bd 40 (pxX x0 x1 c (Int.tmod j c + 1)) := (pxX_bd h0 h2 (by omega) (by omega)).mono (by omega)
  have p4 : Bd 40 (pxY y0 y1 r (Int.tdiv j c)) := (pxY_bd h1 h3 (by omega) (by omega)).mono (by omega)
  have main := cvQ_sharp p1 p2 p3 p4 ob hb (by omega) (by omega) (by omega) (by omega)
  unfold cvP pxQ
  exact main
theorem law3 (hA : Fun Tryz.prog 12 [] [.v (.bool true)]) (o : List (RD × RD)) (hs : List (List (RD × RD))) (a b c d : RD) (m k : Int) : Fun Tryz.prog 3 [pgR o hs, quR a b c d, i64 m, i64 k] [.v (.bool true)] := by
  cases hg : (g22 o hs || gtT [(a, b), (c, d)] m k) with
  | true => exact law3a hA o hs a b c d m k (.inl hg)
  | false =>
    by_cases hm : 3 < m
    · exact law3a hA o hs a b c d m k (.inr (.inl hm))
    by_cases hk : 3 < k
    · exact law3a hA o hs a b c d m k (.inr (.inr hk))
    have hg' := hg
    rw [Bool.or_eq_false_iff] at hg'
    have hpo := g22_ok hg'.1
    have hgt := hg'.2
    unfold gtT at hgt
    simp only [List.any_cons, List.any_nil, gtP, Bool.or_false, Bool.or_eq_false_iff, decide_eq_false_iff_not] at hgt
    obtain ⟨⟨⟨ga, gb⟩, gc, gd⟩, gn⟩ := hgt
    obtain ⟨xs, f, h1, hf⟩ := cover_any hpo ga gb gc gd m k
    obtain ⟨ys, f', h2, _⟩ := cover_any hpo ga gb gc gd (wr64 (2 * m)) (wr64 (2 * k))
    by_cases hf0 : f = 0
    · obtain ⟨m1, m2, k1, k2, hp, hx, hy, eq1⟩ := hf hf0
      have eq2 : quR a b c d = quD a.val b.val c.val d.val := by rw [quD_eq, eq1.1, eq1.2.1, eq1.2.2.1, eq1.2.2.2]
      rw [eq2]
      exact law3b hA hpo (by omega) (gtR_bd ga) (gtR_bd gb) (gtR_bd gc) (gtR_bd gd) hx hy (by omega) (by omega) hp (by rw [eq1.1, eq1.2.1, eq1.2.2.1, eq1.2.2.2]; exact hg)
        (fun j hj => cvP_sharp hpo hp (gtR_bd ga) (gtR_bd gb) (gtR_bd gc) (gtR_bd gd) (by omega) (by omega) j hj)
    · exact law3e hA o hs a b c d m k hg (by omega) (by omega) h1 hf0 h2
end Go.Nv
end
