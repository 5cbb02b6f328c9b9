import Derived.Test.YtdjbkccoofcnjaaGreatNvD8
import Derived.Test.YtdjbkccoofcnjaaGreatNvD6
set_option linter.all false
set_option linter.unusedVariables false
set_option linter.unusedSimpArgs false
section
namespace Go.Nv
open Go.Proofs Nw
set_option maxRecDepth 100000
set_option linter.unusedVariables false
set_option linter.unusedSimpArgs false
theorem rings_c (o : List P2) (hs : List (List P2)) : Fun Tryz.prog 215 [.a [.l (pL o), .l (hQ hs)]] [.f 285 [.p 0 [.l (pL o), .l (hQ hs)]]] := by
  refine fun_of_go (fun t => false) mixed tOk Tryz.func215 rfl rfl ?_
  conv => whnf
  refine ⟨?_, trivial⟩
  conv => whnf
  rfl
theorem mid_c {x0 y0 x1 y1 : Rat} {n : Nat} (h0 : Bd n x0) (h1 : Bd n y0) (h2 : Bd n x1) (h3 : Bd n y1) (hn : n < 100000000) :
    Fun Tryz.prog 92 [quD x0 y0 x1 y1] [pD (midP (x0, y0) (x1, y1))] := by
  refine fun_of_go (fun t => t == 3) mixed tOk Tryz.func92 rfl rfl ?_
  conv => whnf
  refine call_data rfl rfl (ratio_r 1 2 (by omega) (by omega)) ?_
  conv => whnf
  have hf2 : Rat.divInt 1 2 = (1 / 2 : Rat) := by rw [Rat.divInt_eq_div]; rfl
  have hb2 : Bd 1 (1 / 2 : Rat) := (bd_int 1 (n := 0) (by simp)).div (bd_int 2 (n := 1) (by decide))
  rw [hf2]
  refine call_data rfl rfl (vat_c h0 h1 h2 h3 hb2 (by omega) (by omega)) ?_
  conv => whnf
  refine ⟨?_, trivial⟩
  conv => whnf
  exact ⟨rfl, rfl, rfl, rfl, rfl, rfl, trivial⟩
theorem arS_take {o : List P2} {hs : List (List P2)} {i : Nat} (h : i < hs.length) : arS o (hs.take (i + 1)) = arS o (hs.take i) - tot crQ hs[i] / 2 := by
  unfold arS; rw [List.take_succ_eq_append_getElem h, List.foldl_append]; rfl
theorem tot_half_bd {l : List P2} {n : Nat} (hl : ∀ p ∈ l, BP n p) (hlen : l.length ≤ 100) : Bd (100 * (4 * n + 2) + 1) (tot crQ l / 2) := by
  have := area_bd hl l.length (Nat.le_refl _)
  rw [tot_all] at this
  refine (this.div (bd_int 2 (n := 1) (by decide))).mono ?_
  have : l.length * (4 * n + 2) ≤ 100 * (4 * n + 2) := Nat.mul_le_mul_right _ (by omega)
  omega
theorem arS_bd {o : List P2} {hs : List (List P2)} {n : Nat} (ho : ∀ p ∈ o, BP n p) (hlo : o.length ≤ 100) (hh : ∀ h ∈ hs, (∀ p ∈ h, BP n p) ∧ h.length ≤ 100) : ∀ i, i ≤ hs.length → Bd ((i + 1) * (100 * (4 * n + 2) + 2)) (arS o (hs.take i))
  | 0, _ => by
    show Bd _ (tot crQ o / 2)
    exact (tot_half_bd ho hlo).mono (by omega)
  | i + 1, h => by
    rw [arS_take h]
    have hm := hh _ (List.getElem_mem h)
    exact ((arS_bd ho hlo hh i (by omega)).sub (tot_half_bd hm.1 hm.2)).mono (by rw [Nat.add_mul (i + 1) 1]; omega)
theorem parea_c {o : List P2} {hs : List (List P2)} {n : Nat} (hck : Fun Tryz.prog 48 [.a [.l (pL o), .l (hQ hs)]] [i64 0]) (ho : ∀ p ∈ o, BP n p) (hlo : o.length ≤ 100) (hh : ∀ h ∈ hs, (∀ p ∈ h, BP n p) ∧ h.length ≤ 100) (hn : n < 10000) (hlh : hs.length ≤ 8) :
    Fun Tryz.prog 37 [.a [.l (pL o), .l (hQ hs)]] [ratD (arS o hs), i64 0] := by
  have hll : (hQ hs).length = hs.length := by simp
  have hb := arS_bd ho hlo hh
  have hbb : ∀ i, i ≤ hs.length → (i + 1) * (100 * (4 * n + 2) + 2) ≤ 9 * (100 * (4 * n + 2) + 2) := fun i hi => Nat.mul_le_mul_right _ (by omega)
  refine fun_of_go (fun t => t == 4 || t == 2) mixed tOk Tryz.func37 rfl rfl ?_
  conv => whnf
  refine call_data rfl rfl hck ?_
  conv => whnf
  refine cond_bf (by decide) ?_
  conv => whnf
  refine call_data rfl rfl (area_c o ho (by omega) (by omega)) ?_
  conv => whnf
  refine loop_intro (fun t => t == 4 || t == 2) (fun i : Nat => ⟨fr 27 [(1, .d (.p 0 [.l (pL o), .l (hQ hs)])), (2, .ptr 0 0 0), (4, .ptr 1 0 0), (15, .d (.l (hQ hs))), (16, .d (i64 (hQ hs).length)), (17, .d (i64 i))],
    [.box 27 [.d (.v (.bool false)), .d (.v (.string emp)), .d (.v (.string emp))], .box 27 ((ratD (arS o (hs.take i))).cells.map .d)]⟩) (fun i => i ≤ hs.length) (fun i => hs.length - i) 0 mixed tOk (by omega) ?_ ?_
  · refine weak_r ?_ ?_ <;> repeat' (first | exact trivial | exact rfl | refine And.intro ?_ ?_)
  · intro i hi
    have hbi := hb i hi
    have hbbi := hbb i hi
    conv => whnf
    refine cond_d (fun hlt => ?_) (fun hge => ?_)
    · have hlt' : i < hs.length := by omega
      have hm := hh _ (List.getElem_mem hlt')
      have est := arS_take (o := o) hlt'
      have hw := tot_half_bd hm.1 hm.2
      conv => whnf
      refine idx_intro (.l (pL hs[i])) (hQ_get hlt') (by omega) (hQ_uni _) ?_
      conv => whnf
      refine callv_data (area_c _ hm.1 (by omega) (by omega)) ?_
      conv => whnf
      refine callv_data (sub_q (.mk hbi (by omega)) (.mk hw (by omega))) ?_
      conv => whnf
      refine safe_intro (by kernel_rfl) ?_
      conv => whnf
      refine sd_d (by omega) ?_
      conv => whnf
      refine ⟨i + 1, by omega, by omega, ?_⟩
      rw [est, Int.natCast_succ]
      refine weak_r ?_ ?_ <;> repeat' (first | exact trivial | exact rfl | refine And.intro ?_ ?_)
    · have : i = hs.length := by omega
      subst this
      rw [List.take_length] at hbi ⊢
      conv => whnf
      refine ⟨?_, ?_, trivial⟩
      · conv => whnf
        exact ⟨rfl, rfl, rfl, trivial⟩
      · conv => whnf
theorem inV_rng (l : List P2) (p : P2) : inV l p = 0 ∨ inV l p = 1 ∨ inV l p = -1 := by
  unfold inV
  split
  · exact .inl rfl
  · split
    · exact .inl rfl
    · split
      · exact .inr (.inl rfl)
      · exact .inr (.inr rfl)
noncomputable def whSt (o : List P2) (hs : List (List P2)) (q : P2) (i : Nat) : St :=
  ⟨fr 25 [(0, .own 1 0), (1, .d (.p 0 [.l (pL o), .l (hQ hs)])), (11, .d (.l (hQ hs))), (12, .d (i64 (hQ hs).length)), (13, .d (i64 i))],
   [.box 3 [.d (i64 0)],
    .loop .ready none #[11, 12] (rfO Tryz.f122.body).1 (rfO Tryz.f122.body).2 (fr 26 [(3, .d (.p 0 (pD q).cells)), (4, .ptr 0 0 0)])]⟩
theorem where_c {o : List P2} {hs : List (List P2)} {q : P2} {n : Nat} (ho : ∀ p ∈ o, BP n p) (hlo : o.length ≤ 100) (hh : ∀ h ∈ hs, (∀ p ∈ h, BP n p) ∧ h.length ≤ 100) (hq : BP n q) (hn : n < 10000) (hlh : hs.length ≤ 8) :
    Fun Tryz.prog 122 [.a [.l (pL o), .l (hQ hs)], pD q] [i64 (whV o hs q)] := by
  have hll : (hQ hs).length = hs.length := by simp
  have r0 := inV_rng o q
  refine fun_of_go (fun t => t == 4 || t == 5 || t == 6 || t == 7 || t == 8) mixed tOk Tryz.func122 rfl rfl ?_
  conv => whnf
  refine call_data rfl rfl (rings_c o hs) ?_
  conv => whnf
  refine range_intro (g := 285) (cap := [.d (.p 0 [.l (pL o), .l (hQ hs)])]) (fun t => t == 4 || t == 5 || t == 6 || t == 7 || t == 8) mixed tOk rfl rfl rfl rfl rfl ?_
  conv => whnf
  refine call_yield (fun t => t == 4 || t == 5 || t == 6 || t == 7 || t == 8) mixed tOk rfl rfl rfl ?_
  conv => whnf
  refine call_data rfl rfl (rinside_c o q ho hq (by omega) (by omega)) ?_
  conv => whnf
  refine cond_df (by decide) ?_
  conv => whnf
  refine cond_d (fun c1 => ?_) (fun c1 => ?_)
  · rw [show whV o hs q = inV o q by unfold whV; rw [if_pos c1]]
    conv => whnf
    refine ⟨?_, trivial⟩
    conv => whnf
  rw [show whV o hs q = whL hs q by unfold whV; rw [if_neg c1]]
  conv => whnf
  refine loop_introD (fun t => t == 4 || t == 5 || t == 6 || t == 7 || t == 8) (fun i : Nat => whSt o hs q i) (fun i => i ≤ hs.length ∧ whL hs q = whL (hs.drop i) q) (fun i => hs.length - i) 0 mixed tOk ⟨by omega, rfl⟩ ?_ ?_
  · refine weak_dead 2 rfl ?_
    refine weak_l ?_ ?_ <;> repeat' (first | exact trivial | exact rfl | refine And.intro ?_ ?_)
  · rintro i ⟨hi, heq⟩
    rw [heq]
    conv => whnf
    refine cond_d (fun hlt => ?_) (fun hge => ?_)
    · have hlt' : i < hs.length := by omega
      have hm := hh _ (List.getElem_mem hlt')
      have r1 := inV_rng hs[i] q
      rw [List.drop_eq_getElem_cons hlt', whL]
      conv => whnf
      refine idx_intro (.l (pL hs[i])) (hQ_get hlt') (by omega) (hQ_uni _) ?_
      conv => whnf
      refine sd_d (by omega) ?_
      conv => whnf
      refine call_yield (fun t => t == 4 || t == 5 || t == 6 || t == 7 || t == 8) mixed tOk rfl rfl rfl ?_
      conv => whnf
      refine call_data rfl rfl (rinside_c hs[i] q hm.1 hq (by omega) (by omega)) ?_
      conv => whnf
      refine cond_dt (by omega) ?_
      conv => whnf
      refine sd_d (by omega) ?_
      conv => whnf
      refine cond_d (fun c2 => ?_) (fun c2 => ?_)
      · rw [if_pos c2]
        conv => whnf
        refine ⟨?_, trivial⟩
        conv => whnf
      · rw [if_neg c2]
        conv => whnf
        refine sd_d (by omega) ?_
        conv => whnf
        refine ⟨i + 1, ⟨by omega, rfl⟩, by omega, ?_⟩
        unfold whSt
        rw [Int.natCast_succ]
        refine weak_dead 2 rfl ?_
        refine weak_l ?_ ?_ <;> repeat' (first | exact trivial | exact rfl | refine And.intro ?_ ?_)
    · have : i = hs.length := by omega
      subst this
      rw [List.drop_length, whL]
      conv => whnf
      refine ⟨?_, trivial⟩
      conv => whnf
theorem pinside_c {o : List P2} {hs : List (List P2)} {q : P2} {n : Nat} (hck : Fun Tryz.prog 48 [.a [.l (pL o), .l (hQ hs)]] [i64 0]) (ho : ∀ p ∈ o, BP n p) (hlo : o.length ≤ 100) (hh : ∀ h ∈ hs, (∀ p ∈ h, BP n p) ∧ h.length ≤ 100) (hq : BP n q) (hn : n < 10000) (hlh : hs.length ≤ 8) :
    Fun Tryz.prog 51 [.a [.l (pL o), .l (hQ hs)], pD q] [i64 (whV o hs q), i64 0] := by
  refine fun_of_go (fun t => false) mixed tOk Tryz.func51 rfl rfl ?_
  conv => whnf
  refine call_data rfl rfl hck ?_
  conv => whnf
  refine cond_bf (by decide) ?_
  conv => whnf
  refine call_data rfl rfl (vcheck_q (.mk hq.1 (by omega)) (.mk hq.2 (by omega))) ?_
  conv => whnf
  refine cond_bf (by decide) ?_
  conv => whnf
  refine call_data rfl rfl (where_c ho hlo hh hq hn hlh) ?_
  conv => whnf
  refine ⟨?_, ?_, trivial⟩
  · conv => whnf
  · conv => whnf
theorem centers1_c {x0 y0 x1 y1 : Rat} {o : List P2} {hs : List (List P2)} {n k : Nat} (hck : Fun Tryz.prog 48 [.a [.l (pL o), .l (hQ hs)]] [i64 0]) (h0 : Bd k x0) (h1 : Bd k y0) (h2 : Bd k x1) (h3 : Bd k y1) (hl : ∀ p ∈ o, BP n p) (hhl : ∀ h ∈ hs, (∀ p ∈ h, BP n p) ∧ h.length ≤ 100) (hn : n ≤ 100) (hk : k ≤ 1000) (hlen : o.length ≤ 100) (hhs : hs.length ≤ 8) :
    Fun Tryz.prog 91 [quD x0 y0 x1 y1, .p 0 [.l (pL o), .l (hQ hs)]] [.v (.bool (decide (0 ≤ whV o hs (midP (x0, y0) (x1, y1)))))] := by
  have hm : BP (6 * k + 10) (midP (x0, y0) (x1, y1)) := by
    have hb2 : Bd 1 (1 / 2 : Rat) := (bd_int 1 (n := 0) (by simp)).div (bd_int 2 (n := 1) (by decide))
    exact ⟨(h0.add ((h2.sub h0).mul hb2)).mono (by omega), (h1.add ((h3.sub h1).mul hb2)).mono (by omega)⟩
  have N : ∃ N, N < 10000 ∧ n ≤ N ∧ 6 * k + 10 ≤ N := ⟨6 * k + 110, by omega, by omega, by omega⟩
  obtain ⟨N, n1, n2, n3⟩ := N
  have hin := pinside_c (n := N) hck (fun p hp => (hl p hp).mono n2) hlen (fun h hh => ⟨fun p hp => ((hhl h hh).1 p hp).mono n2, (hhl h hh).2⟩) (hm.mono n3) n1 hhs
  refine fun_of_go (fun t => false) mixed tOk Tryz.func91 rfl rfl ?_
  conv => whnf
  refine callv_data (mid_c h0 h1 h2 h3 (by omega)) ?_
  conv => whnf
  refine callv_data hin ?_
  conv => whnf
  refine safe_intro (by kernel_rfl) ?_
  conv => whnf
  refine ⟨?_, trivial⟩
  conv => whnf
  rw [bz_eq]
end Go.Nv
end
section
namespace Go.Nv
open Go.Proofs Nw
set_option maxRecDepth 100000
set_option linter.unusedVariables false
set_option linter.unusedSimpArgs false
abbrev bL (l : List Bool) : List D := l.map fun b => .v (.bool b)
theorem bL_uni (l : List Bool) : Uni 1 (bL l) := by
  intro x hx
  obtain ⟨p, _, rfl⟩ := List.mem_map.1 hx
  rfl
noncomputable def ebSt (x0 y0 x1 y1 : Rat) (c r : Int) (f : FuncId) (cap : List D) (g : Nat → Bool) (i : Nat) : St :=
  ⟨fr 27 [(0, .own 3 0), (1, .d (.p 0 (grD x0 y0 x1 y1 c r).cells)), (8, .d (i64 (c * r))), (9, .d (i64 i))],
   [.dead, .box 58 [.own 2 0], .row 0 4 1 1 (bL ((List.range i).map g)),
    .loop .ready none #[10, 11] (rfO Tryz.f90.body).1 (rfO Tryz.f90.body).2 (fr 19 [(3, .d (.p 0 [.f f cap])), (5, .ptr 1 0 0)])]⟩
theorem each_b {x0 y0 x1 y1 : Rat} {c r : Int} {n : Nat} (h0 : Bd n x0) (h1 : Bd n y0) (h2 : Bd n x1) (h3 : Bd n y1) (hn : n < 100000000) (hcr : 1 ≤ c ∧ c ≤ 128) (hrr : 1 ≤ r ∧ r ≤ 128)
    (f : FuncId) (cap : List D) (g : Nat → Bool) (hf : ∀ j : Nat, (j : Int) < c * r → Fun Tryz.prog f ([sD (pxQ x0 y0 x1 y1 c r j).1 (pxQ x0 y0 x1 y1 c r j).2] ++ cap) [.v (.bool (g j))]) :
    Fun Tryz.prog 90 [grD x0 y0 x1 y1 c r, .f f cap] [.l (bL ((List.range (c.toNat * r.toNat)).map g))] := by
  have k1 : c * r ≤ 128 * 128 := Int.mul_le_mul hcr.2 hrr.2 (by omega) (by omega)
  have k2 : 0 < c * r := Int.mul_pos (by omega) (by omega)
  have kN : ((c.toNat * r.toNat : Nat) : Int) = c * r := by rw [Int.natCast_mul, Int.toNat_of_nonneg (by omega), Int.toNat_of_nonneg (by omega)]
  refine fun_of_go (fun t => t == 5 || t == 7) mixed tOk Tryz.func90 rfl rfl ?_
  conv => whnf
  refine call_data rfl rfl pixels_c ?_
  conv => whnf
  refine okc_own 1 0 4 1 1 ?_
  refine range_intro (g := 145) (cap := [.d (.p 0 (grD x0 y0 x1 y1 c r).cells)]) (fun t => t == 5 || t == 7) mixed tOk rfl rfl rfl rfl rfl ?_
  conv => whnf
  refine sd_d (by omega) ?_
  conv => whnf
  refine loop_introD (fun t => t == 5 || t == 7) (fun i : Nat => ebSt x0 y0 x1 y1 c r f cap g i) (fun i => i ≤ c.toNat * r.toNat) (fun i => c.toNat * r.toNat - i) 0 mixed tOk (by omega) ?_ ?_
  · refine weak_dead 0 rfl ?_
    refine weak_l ?_ ?_ <;> repeat' (first | exact trivial | exact rfl | refine And.intro ?_ ?_)
  · intro i hi
    conv => whnf
    refine cond_d (fun hlt => ?_) (fun hge => ?_)
    · have hfi := hf i hlt
      have hst : bL ((List.range (i + 1)).map g) = bL ((List.range i).map g) ++ [.v (.bool (g i))] := by rw [List.range_succ]; simp [bL]
      have hl : (bL ((List.range i).map g)).length = i := by simp
      conv => whnf
      refine okc_drawY 12 _ (fun t => t == 5 || t == 7) (.tmp 12) [.tmp 13, .tmp 23] mixed tOk rfl rfl ⟨_, rfl⟩ (by kernel_rfl) ?_
      conv => whnf
      have d1 := Int.tmod_nonneg (b := c) (a := (i : Int)) (by omega)
      have d2 := Int.tmod_lt_of_pos (i : Int) (b := c) (by omega)
      have d3 : 0 ≤ Int.tdiv (i : Int) c := Int.tdiv_nonneg (by omega) (by omega)
      have d4 : Int.tdiv (i : Int) c < r := by
        rw [Int.tdiv_eq_ediv_of_nonneg (by omega)]
        exact Int.ediv_lt_of_lt_mul (by omega) (by rw [Int.mul_comm]; exact hlt)
      refine sd_d (by omega) ?_
      conv => whnf
      refine sd_dd (by omega) (by omega) ?_
      conv => whnf
      refine callv_data (pixel_c h0 h1 h2 h3 (by omega) (by omega) (by omega) (by omega) (by omega)) ?_
      conv => whnf
      refine safe_intro (by kernel_rfl) ?_
      conv => whnf
      refine call_yield (fun t => t == 5 || t == 7) mixed tOk rfl rfl rfl ?_
      conv => whnf
      refine okc_go (fun t => t == 5 || t == 7) mixed tOk ?_
      conv => whnf
      refine callv_data hfi ?_
      conv => whnf
      refine sd_app (bL_uni _) (by intro x hx; rcases List.mem_singleton.1 hx with rfl; rfl) (by simp only [maxLen, List.length_cons, List.length_nil]; omega) ?_
      conv => whnf
      refine safe_intro (by kernel_rfl) ?_
      conv => whnf
      refine safe_intro (by kernel_rfl) ?_
      conv => whnf
      refine sd_d (by omega) ?_
      conv => whnf
      refine ⟨i + 1, by omega, by omega, ?_⟩
      unfold ebSt
      rw [hst, Int.natCast_succ]
      refine weak_dead 4 rfl (weak_dead 5 rfl (weak_dead 6 rfl ?_))
      refine weak_l ?_ ?_ <;> repeat' (first | exact trivial | exact rfl | refine And.intro ?_ ?_)
    · have : i = c.toNat * r.toNat := by omega
      subst this
      conv => whnf
      refine ⟨?_, trivial⟩
      conv => whnf
end Go.Nv
end
section
namespace Go.Nv
open Go.Proofs Nw
set_option maxRecDepth 100000
set_option linter.unusedVariables false
set_option linter.unusedSimpArgs false
theorem centers_x {o : List (RD × RD)} {hs : List (List (RD × RD))} {n : Nat} (h : PgOk o hs n) (hn : n < 1000000) (a b c d : RD) (ha : Sz a) (hb : Sz b) (hc : Sz c) (hd : Sz d) (hv : vbB a b c d = false) (m k : Int) :
    Fun Tryz.prog 28 [pgR o hs, quR a b c d, i64 m, i64 k] [.l [], i64 1] := by
  refine fun_of_go (fun t => t == 10) mixed tOk Tryz.func28 rfl rfl ?_
  conv => whnf
  refine callv_data (pcheck_o h hn) ?_
  conv => whnf
  refine callv_data (gchkx a b c d ha hb hc hd hv m k _) ?_
  conv => whnf
  refine safe_intro (by kernel_rfl) ?_
  conv => whnf
  refine cond_bt (by decide) ?_
  conv => whnf
  refine ⟨?_, ?_, trivial⟩
  · conv => whnf
  · conv => whnf
theorem centers_p {o : List (RD × RD)} {hs : List (List (RD × RD))} {n : Nat} (h : PgOk o hs n) (hn : n < 1000000) {x0 y0 x1 y1 : Rat} (q0 : Q x0) (q1 : Q y0) (q2 : Q x1) (q3 : Q y1) (hx : x0 < x1) (hy : y0 < y1) (hp : pgE o hs ≠ 0) (m k : Int) :
    Fun Tryz.prog 28 [pgR o hs, quD x0 y0 x1 y1, i64 m, i64 k] [.l [], i64 1] := by
  refine fun_of_go (fun t => t == 10) mixed tOk Tryz.func28 rfl rfl ?_
  conv => whnf
  refine callv_data (pcheck_o h hn) ?_
  conv => whnf
  refine callv_eq (gchk0 q0 q1 q2 q3 hx hy (c := m) (r := k)) (by rw [show bz (pgE o hs == 0) = false by rw [bz_eq]; simpa using hp]; rfl) ?_
  conv => whnf
  refine safe_intro (by kernel_rfl) ?_
  conv => whnf
  refine cond_bt (by decide) ?_
  conv => whnf
  refine ⟨?_, ?_, trivial⟩
  · conv => whnf
  · conv => whnf
theorem centers_s {o : List (RD × RD)} {hs : List (List (RD × RD))} {n : Nat} (h : PgOk o hs n) (hn : n < 1000000) {x0 y0 x1 y1 : Rat} (q0 : Q x0) (q1 : Q y0) (q2 : Q x1) (q3 : Q y1) (hx : x0 < x1) (hy : y0 < y1) (hp : pgE o hs = 0) (m k : Int) (hs' : gcE m k = 2) :
    Fun Tryz.prog 28 [pgR o hs, quD x0 y0 x1 y1, i64 m, i64 k] [.l [], i64 2] := by
  have hg := gchk1 q0 q1 q2 q3 hx hy (c := m) (r := k)
  rw [hs'] at hg
  refine fun_of_go (fun t => t == 10) mixed tOk Tryz.func28 rfl rfl ?_
  conv => whnf
  refine callv_data (pcheck_o h hn) ?_
  conv => whnf
  refine callv_eq hg (by rw [show bz (pgE o hs == 0) = true by rw [bz_eq]; simpa using hp]; rfl) ?_
  conv => whnf
  refine safe_intro (by kernel_rfl) ?_
  conv => whnf
  refine cond_bt (by decide) ?_
  conv => whnf
  refine ⟨?_, ?_, trivial⟩
  · conv => whnf
  · conv => whnf
def cnB (x0 y0 x1 y1 : Rat) (c r : Int) (o : List P2) (hs : List (List P2)) (j : Nat) : Bool :=
  decide (0 ≤ whV o hs (midP (pxQ x0 y0 x1 y1 c r j).1 (pxQ x0 y0 x1 y1 c r j).2))
theorem centers_c {o : List (RD × RD)} {hs : List (List (RD × RD))} {n : Nat} (h : PgOk o hs n) (hn : n ≤ 100) {x0 y0 x1 y1 : Rat} (h0 : Bd n x0) (h1 : Bd n y0) (h2 : Bd n x1) (h3 : Bd n y1) (hx : x0 < x1) (hy : y0 < y1) (hp : pgE o hs = 0) {c r : Int} (hcr : 1 ≤ c ∧ c ≤ 128) (hrr : 1 ≤ r ∧ r ≤ 128) :
    Fun Tryz.prog 28 [pgR o hs, quD x0 y0 x1 y1, i64 c, i64 r] [.l (bL ((List.range (c.toNat * r.toNat)).map (cnB x0 y0 x1 y1 c r (o.map vP) (hs.map (List.map vP))))), i64 0] := by
  obtain ⟨z1, z2, z3, z4⟩ := pgE_zero hp
  obtain ⟨o1, o2, o3, o4⟩ := rgR_zero z1
  have hg := gchk1 (.mk h0 (by omega)) (.mk h1 (by omega)) (.mk h2 (by omega)) (.mk h3 (by omega)) hx hy (c := c) (r := r)
  rw [show gcE c r = 0 by unfold gcE; rw [if_neg (by omega)]] at hg
  have hck := pcheck_o h (show n < 1000000 by omega)
  rw [hp] at hck
  have ob : ∀ p ∈ o.map vP, BP n p := fun p hp => by obtain ⟨q, hq, rfl⟩ := List.mem_map.1 hp; exact (h.ob q hq).1
  have hb : ∀ x ∈ hs.map (List.map vP), (∀ p ∈ x, BP n p) ∧ x.length ≤ 100 := fun x hx => by
    obtain ⟨q, hq, rfl⟩ := List.mem_map.1 hx
    refine ⟨fun p hp => by obtain ⟨r, hr, rfl⟩ := List.mem_map.1 hp; exact (h.hb q hq r hr).1, ?_⟩
    have := rgR_zero (z2 q hq)
    rw [List.length_map]; omega
  have ol : (o.map vP).length = o.length := List.length_map ..
  have hhl : (hs.map (List.map vP)).length = hs.length := List.length_map ..
  have epg : pgR o hs = .a [.l (pL (o.map vP)), .l (hQ (hs.map (List.map vP)))] := by
    unfold pgR; rw [rL_can o1, hR_can (fun l hl => (rgR_zero (z2 l hl)).1)]
  rw [epg] at hck ⊢
  generalize o.map vP = o' at *
  generalize hs.map (List.map vP) = hs' at *
  have hea := each_b h0 h1 h2 h3 (by omega) hcr hrr 91 [.p 0 [.l (pL o'), .l (hQ hs')]] (cnB x0 y0 x1 y1 c r o' hs') (fun j hj => by
    have d1 := Int.tmod_nonneg (b := c) (a := (j : Int)) (by omega)
    have d2 := Int.tmod_lt_of_pos (j : Int) (b := c) (by omega)
    have d3 : 0 ≤ Int.tdiv (j : Int) c := Int.tdiv_nonneg (by omega) (by omega)
    have d4 : Int.tdiv (j : Int) c < r := by
      rw [Int.tdiv_eq_ediv_of_nonneg (by omega)]
      exact Int.ediv_lt_of_lt_mul (by omega) (by rw [Int.mul_comm]; exact hj)
    exact centers1_c hck (pxX_bd (c := c) h0 h2 (by omega) (by omega)) (pxY_bd (c := r) h1 h3 (by omega) (by omega)) (pxX_bd (c := c) h0 h2 (by omega) (by omega)) (pxY_bd (c := r) h1 h3 (by omega) (by omega)) ob hb hn (by omega) (by omega) (by omega))
  refine fun_of_go (fun t => t == 10) mixed tOk Tryz.func28 rfl rfl ?_
  conv => whnf
  refine callv_data hck ?_
  conv => whnf
  refine callv_eq hg (by simp only [bz_eq]; rfl) ?_
  conv => whnf
  refine safe_intro (by kernel_rfl) ?_
  conv => whnf
  refine cond_bf (by decide) ?_
  conv => whnf
  refine call_data rfl rfl hea ?_
  conv => whnf
  refine ⟨?_, ?_, trivial⟩
  · conv => whnf
  · conv => whnf
theorem both_any {o : List (RD × RD)} {hs : List (List (RD × RD))} (h : PgOk o hs 12) {a b c d : RD} (ga : gtR a = false) (gb : gtR b = false) (gc : gtR c = false) (gd : gtR d = false) (m k : Int) :
    (∃ f, f ≠ 0 ∧ Fun Tryz.prog 13 [pgR o hs, quR a b c d, i64 m, i64 k] [.l [], i64 f] ∧ Fun Tryz.prog 28 [pgR o hs, quR a b c d, i64 m, i64 k] [.l [], i64 f]) ∨
    (1 ≤ m ∧ m ≤ 128 ∧ 1 ≤ k ∧ k ≤ 128 ∧ pgE o hs = 0 ∧ a.val < c.val ∧ b.val < d.val ∧ (canon a.val = a ∧ canon b.val = b ∧ canon c.val = c ∧ canon d.val = d)) := by
  have ha := gtR_sz ga
  have hb := gtR_sz gb
  have hc := gtR_sz gc
  have hd := gtR_sz gd
  cases hw : vbB a b c d with
  | false => exact .inl ⟨_, by decide, cover_x h (by omega) a b c d ha hb hc hd hw m k, centers_x h (by omega) a b c d ha hb hc hd hw m k⟩
  | true =>
    unfold vbB at hw
    obtain ⟨w1, w2, w3, w4⟩ := of_decide_eq_true hw
    rw [okP_zero] at w1 w2
    have ba := gtR_bd ga
    have bb := gtR_bd gb
    have bc := gtR_bd gc
    have bd := gtR_bd gd
    have eq1 : quR a b c d = quD a.val b.val c.val d.val := by rw [quD_eq, w1.1, w1.2, w2.1, w2.2]
    rw [eq1]
    by_cases hp : pgE o hs = 0
    · by_cases hz : m < 1 ∨ m > 128 ∨ k < 1 ∨ k > 128
      · exact .inl ⟨_, by decide, cover_s h (by omega) (.mk ba (by omega)) (.mk bb (by omega)) (.mk bc (by omega)) (.mk bd (by omega)) w3 w4 hp m k (by unfold gcE; rw [if_pos hz]), centers_s h (by omega) (.mk ba (by omega)) (.mk bb (by omega)) (.mk bc (by omega)) (.mk bd (by omega)) w3 w4 hp m k (by unfold gcE; rw [if_pos hz])⟩
      · exact .inr ⟨by omega, by omega, by omega, by omega, hp, w3, w4, w1.1, w1.2, w2.1, w2.2⟩
    · exact .inl ⟨_, by decide, cover_p h (by omega) (.mk ba (by omega)) (.mk bb (by omega)) (.mk bc (by omega)) (.mk bd (by omega)) w3 w4 hp m k, centers_p h (by omega) (.mk ba (by omega)) (.mk bb (by omega)) (.mk bc (by omega)) (.mk bd (by omega)) w3 w4 hp m k⟩
end Go.Nv
end
