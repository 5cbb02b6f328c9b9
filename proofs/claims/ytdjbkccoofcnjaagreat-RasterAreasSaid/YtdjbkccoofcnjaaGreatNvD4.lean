import Derived.Test.YtdjbkccoofcnjaaGreatNvD3
import Derived.Test.YtdjbkccoofcnjaaGreatNvP1
set_option linter.all false
set_option linter.unusedVariables false
set_option linter.unusedSimpArgs false
section
namespace Go.Nv
open Go.Proofs Nw
set_option maxRecDepth 100000
set_option linter.unusedVariables false
set_option linter.unusedSimpArgs false
theorem ws1_c {x0 y0 x1 y1 x y : Rat} (h1 : Q x0) (h5 : Q x) : Fun Tryz.prog 128 [ptD x y, .p 0 (quD x0 y0 x1 y1).cells] [ratD (x - x0)] := by
  refine fun_of_go (fun t => t == 3) mixed tOk Tryz.func128 rfl rfl ?_
  conv => whnf
  refine call_data rfl rfl (sub_q h5 h1) ?_
  conv => whnf
  refine ⟨?_, trivial⟩
  conv => whnf
  exact ⟨rfl, rfl, rfl, trivial⟩
theorem ws2_c {x0 y0 x1 y1 x y : Rat} (h1 : Q x1) (h5 : Q x) : Fun Tryz.prog 129 [ptD x y, .p 0 (quD x0 y0 x1 y1).cells] [ratD (x1 - x)] := by
  refine fun_of_go (fun t => t == 3) mixed tOk Tryz.func129 rfl rfl ?_
  conv => whnf
  refine call_data rfl rfl (sub_q h1 h5) ?_
  conv => whnf
  refine ⟨?_, trivial⟩
  conv => whnf
  exact ⟨rfl, rfl, rfl, trivial⟩
theorem ws3_c {x0 y0 x1 y1 x y : Rat} (h1 : Q y0) (h5 : Q y) : Fun Tryz.prog 130 [ptD x y, .p 0 (quD x0 y0 x1 y1).cells] [ratD (y - y0)] := by
  refine fun_of_go (fun t => t == 3) mixed tOk Tryz.func130 rfl rfl ?_
  conv => whnf
  refine call_data rfl rfl (sub_q h5 h1) ?_
  conv => whnf
  refine ⟨?_, trivial⟩
  conv => whnf
  exact ⟨rfl, rfl, rfl, trivial⟩
theorem ws4_c {x0 y0 x1 y1 x y : Rat} (h1 : Q y1) (h5 : Q y) : Fun Tryz.prog 131 [ptD x y, .p 0 (quD x0 y0 x1 y1).cells] [ratD (y1 - y)] := by
  refine fun_of_go (fun t => t == 3) mixed tOk Tryz.func131 rfl rfl ?_
  conv => whnf
  refine call_data rfl rfl (sub_q h1 h5) ?_
  conv => whnf
  refine ⟨?_, trivial⟩
  conv => whnf
  exact ⟨rfl, rfl, rfl, trivial⟩
def box1 (x0 : Rat) (l : List P2) := cut ⟨true, true, x0⟩ l
def box2 (x0 x1 : Rat) (l : List P2) := cut ⟨true, false, x1⟩ (box1 x0 l)
def box3 (x0 y0 x1 : Rat) (l : List P2) := cut ⟨false, true, y0⟩ (box2 x0 x1 l)
def wiQ (x0 y0 x1 y1 : Rat) (l : List P2) : Rat := boxA x0 y0 x1 y1 l / 2
@[irreducible] def wBd : Nat := 8000004001
theorem wBd_eq : wBd = 8000004001 := by unfold wBd; rfl
structure Wi (x0 y0 x1 y1 : Rat) (l : List P2) : Prop where
  pts : ∀ p ∈ box4 x0 y0 x1 y1 l, BP 999999 p
  len : (box4 x0 y0 x1 y1 l).length ≤ 2000
theorem wi_of {x0 y0 x1 y1 : Rat} {l : List P2} {n k : Nat} (h0 : Bd k x0) (h1 : Bd k y0) (h2 : Bd k x1) (h3 : Bd k y1) (hl : ∀ p ∈ l, BP n p) (hn : n ≤ 100) (hk : k ≤ 1000) (hlen : l.length ≤ 100) : Wi x0 y0 x1 y1 l := by
  have a1 := cut_bp (H := ⟨true, true, x0⟩) h0 hl
  have a2 := cut_bp (H := ⟨true, false, x1⟩) h2 a1
  have a3 := cut_bp (H := ⟨false, true, y0⟩) h1 a2
  have a4 := cut_bp (H := ⟨false, false, y1⟩) h3 a3
  have l1 := cut_len ⟨true, true, x0⟩ l
  have l2 := cut_len ⟨true, false, x1⟩ (cut ⟨true, true, x0⟩ l)
  have l3 := cut_len ⟨false, true, y0⟩ (cut ⟨true, false, x1⟩ (cut ⟨true, true, x0⟩ l))
  have l4 := cut_len ⟨false, false, y1⟩ (cut ⟨false, true, y0⟩ (cut ⟨true, false, x1⟩ (cut ⟨true, true, x0⟩ l)))
  exact ⟨fun p hp => (a4 p hp).mono (by omega), by unfold box4; omega⟩
theorem wnum {m N w : Nat} (h : m ≤ 2000) (hN : N ≤ 4000000) (hw : w = 8000004001) : m * N + 1 ≤ w := by
  have h1 := Nat.mul_le_mul h hN
  rw [hw]
  omega
theorem wiQ_bd {x0 y0 x1 y1 : Rat} {l : List P2} (h : Wi x0 y0 x1 y1 l) : Bd wBd (wiQ x0 y0 x1 y1 l) := by
  have h1 := area_bd h.pts _ (Nat.le_refl _)
  rw [tot_all] at h1
  exact (h1.div (bd_int 2 (n := 1) (by decide))).mono (wnum h.len (by decide) wBd_eq)
theorem rwithin_c {x0 y0 x1 y1 : Rat} {l : List P2} {n k : Nat} (h0 : Bd k x0) (h1 : Bd k y0) (h2 : Bd k x1) (h3 : Bd k y1) (hl : ∀ p ∈ l, BP n p) (hn : n ≤ 100) (hk : k ≤ 1000) (hlen : l.length ≤ 100) :
    Fun Tryz.prog 58 [.l (pL l), quD x0 y0 x1 y1] [ratD (wiQ x0 y0 x1 y1 l)] := by
  have hw := wi_of h0 h1 h2 h3 hl hn hk hlen
  have a1 := cut_bp (H := ⟨true, true, x0⟩) h0 hl
  have a2 := cut_bp (H := ⟨true, false, x1⟩) h2 a1
  have a3 := cut_bp (H := ⟨false, true, y0⟩) h1 a2
  have l1 := cut_len ⟨true, true, x0⟩ l
  have l2 := cut_len ⟨true, false, x1⟩ (cut ⟨true, true, x0⟩ l)
  have l3 := cut_len ⟨false, true, y0⟩ (cut ⟨true, false, x1⟩ (cut ⟨true, true, x0⟩ l))
  have c1 := cut_c 128 [.p 0 (quD x0 y0 x1 y1).cells] ⟨true, true, x0⟩ l h0 hl (by omega) (by omega) (by omega) (fun p hp => by
    rw [hx_up]; exact ws1_c (.mk h0 (by omega)) (.mk (hl p hp).1 (by omega)))
  have c2 := cut_c 129 [.p 0 (quD x0 y0 x1 y1).cells] ⟨true, false, x1⟩ _ h2 a1 (by omega) (by omega) (by omega) (fun p hp => by
    rw [hx_dn]; exact ws2_c (.mk h2 (by omega)) (.mk (a1 p hp).1 (by omega)))
  have c3 := cut_c 130 [.p 0 (quD x0 y0 x1 y1).cells] ⟨false, true, y0⟩ _ h1 a2 (by omega) (by omega) (by omega) (fun p hp => by
    rw [hy_up]; exact ws3_c (.mk h1 (by omega)) (.mk (a2 p hp).2 (by omega)))
  have c4 := cut_c 131 [.p 0 (quD x0 y0 x1 y1).cells] ⟨false, false, y1⟩ _ h3 a3 (by omega) (by omega) (by omega) (fun p hp => by
    rw [hy_dn]; exact ws4_c (.mk h3 (by omega)) (.mk (a3 p hp).2 (by omega)))
  have c5 := area_c (box4 x0 y0 x1 y1 l) hw.pts (by omega) hw.len
  refine fun_of_go (fun t => t == 4) mixed tOk Tryz.func58 rfl rfl ?_
  conv => whnf
  refine call_data rfl rfl c1 ?_
  conv => whnf
  refine call_data rfl rfl c2 ?_
  conv => whnf
  refine call_data rfl rfl c3 ?_
  conv => whnf
  refine call_data rfl rfl c4 ?_
  conv => whnf
  refine call_data rfl rfl c5 ?_
  conv => whnf
  refine ⟨?_, trivial⟩
  conv => whnf
  exact ⟨rfl, rfl, rfl, trivial⟩
def cvS (x0 y0 x1 y1 : Rat) (o : List P2) (hs : List (List P2)) : Rat := hs.foldl (fun a h => a - wiQ x0 y0 x1 y1 h) (wiQ x0 y0 x1 y1 o)
def cvQ (x0 y0 x1 y1 : Rat) (o : List P2) (hs : List (List P2)) : Rat := cvS x0 y0 x1 y1 o hs / ((x1 - x0) * (y1 - y0))
theorem cvS_take {x0 y0 x1 y1 : Rat} {o : List P2} {hs : List (List P2)} {i : Nat} (h : i < hs.length) : cvS x0 y0 x1 y1 o (hs.take (i + 1)) = cvS x0 y0 x1 y1 o (hs.take i) - wiQ x0 y0 x1 y1 hs[i] := by
  unfold cvS; rw [List.take_succ_eq_append_getElem h, List.foldl_append]; rfl
theorem cvS_bd {x0 y0 x1 y1 : Rat} {o : List P2} {hs : List (List P2)} (ho : Wi x0 y0 x1 y1 o) (hh : ∀ h ∈ hs, Wi x0 y0 x1 y1 h) : ∀ i, i ≤ hs.length → Bd ((i + 1) * (wBd + 1)) (cvS x0 y0 x1 y1 o (hs.take i))
  | 0, _ => by
    show Bd _ (wiQ x0 y0 x1 y1 o)
    exact (wiQ_bd ho).mono (by omega)
  | i + 1, h => by
    rw [cvS_take h]
    exact ((cvS_bd ho hh i (by omega)).sub (wiQ_bd (hh _ (List.getElem_mem h)))).mono (by rw [Nat.add_mul (i + 1) 1]; omega)
theorem cover1_c {x0 y0 x1 y1 : Rat} {o : List P2} {hs : List (List P2)} {n k : Nat} (h0 : Bd k x0) (h1 : Bd k y0) (h2 : Bd k x1) (h3 : Bd k y1) (hl : ∀ p ∈ o, BP n p) (hhl : ∀ h ∈ hs, (∀ p ∈ h, BP n p) ∧ h.length ≤ 100) (hn : n ≤ 100) (hk : k ≤ 1000) (hlen : o.length ≤ 100) (hhs : hs.length ≤ 8) :
    Fun Tryz.prog 57 [quD x0 y0 x1 y1, .p 0 [.l (pL o), .l (hQ hs)]] [ratD (cvQ x0 y0 x1 y1 o hs)] := by
  have hll : (hQ hs).length = hs.length := by simp
  have wo := wi_of h0 h1 h2 h3 hl hn hk hlen
  have wh : ∀ h ∈ hs, Wi x0 y0 x1 y1 h := fun h hh => wi_of h0 h1 h2 h3 (hhl h hh).1 hn hk (hhl h hh).2
  have hb := cvS_bd wo wh
  have hwb := wBd_eq
  have hbb : ∀ i, i ≤ hs.length → (i + 1) * (wBd + 1) ≤ 9 * (wBd + 1) := fun i hi => Nat.mul_le_mul_right _ (by omega)
  refine fun_of_go (fun t => t == 3 || t == 4 || t == 7 || t == 8) mixed tOk Tryz.func57 rfl rfl ?_
  conv => whnf
  refine call_data rfl rfl (rwithin_c h0 h1 h2 h3 hl hn hk hlen) ?_
  conv => whnf
  refine loop_intro (fun t => t == 3 || t == 4 || t == 7 || t == 8) (fun i : Nat => ⟨fr 43 [(2, .d (.p 0 (quD x0 y0 x1 y1).cells)), (3, .ptr 0 0 0), (4, .ptr 1 0 0), (15, .d (.l (hQ hs))), (16, .d (i64 (hQ hs).length)), (17, .d (i64 i))],
    [.box 27 [.d (.v (.bool false)), .d (.v (.string emp)), .d (.v (.string emp))], .box 27 ((ratD (cvS x0 y0 x1 y1 o (hs.take i))).cells.map .d)]⟩) (fun i => i ≤ hs.length) (fun i => hs.length - i) 0 mixed tOk (by omega) ?_ ?_
  · refine weak_r ?_ ?_ <;> repeat' (first | exact trivial | exact rfl | refine And.intro ?_ ?_)
  · intro i hi
    have hbi := hb i hi
    have hbbi := hbb i hi
    conv => whnf
    refine cond_d (fun hlt => ?_) (fun hge => ?_)
    · have hlt' : i < hs.length := by omega
      have hm := hhl _ (List.getElem_mem hlt')
      have hwi := wiQ_bd (wh _ (List.getElem_mem hlt'))
      have est := cvS_take (x0 := x0) (y0 := y0) (x1 := x1) (y1 := y1) (o := o) hlt'
      conv => whnf
      refine idx_intro (.l (pL hs[i])) (hQ_get hlt') (by omega) (hQ_uni _) ?_
      conv => whnf
      refine callv_data (rwithin_c h0 h1 h2 h3 hm.1 hn hk hm.2) ?_
      conv => whnf
      refine callv_data (sub_q (.mk hbi (by omega)) (.mk hwi (by omega))) ?_
      conv => whnf
      refine safe_intro (by kernel_rfl) ?_
      conv => whnf
      refine sd_d (by omega) ?_
      conv => whnf
      refine ⟨i + 1, by omega, by omega, ?_⟩
      rw [est, Int.natCast_succ]
      refine weak_r ?_ ?_ <;> repeat' (first | exact trivial | exact rfl | refine And.intro ?_ ?_)
    · have : i = hs.length := by omega
      subst this
      rw [List.take_length] at hbi ⊢
      have bd : Bd (4 * k + 2) ((x1 - x0) * (y1 - y0)) := ((h2.sub h0).mul (h3.sub h1)).mono (by omega)
      conv => whnf
      refine call_data rfl rfl (vsub_c (.mk h2 (by omega)) (.mk h3 (by omega)) (.mk h0 (by omega)) (.mk h1 (by omega))) ?_
      conv => whnf
      refine callv_data (mul_q (.mk (h2.sub h0) (by omega)) (.mk (h3.sub h1) (by omega))) ?_
      conv => whnf
      refine callv_data (quo_q (.mk hbi (by omega)) (.mk bd (by omega))) ?_
      conv => whnf
      refine safe_intro (by kernel_rfl) ?_
      conv => whnf
      refine ⟨?_, trivial⟩
      conv => whnf
      exact ⟨rfl, rfl, rfl, trivial⟩
end Go.Nv
end
section
namespace Go.Nv
open Go.Proofs Nw
set_option maxRecDepth 100000
set_option linter.unusedVariables false
set_option linter.unusedSimpArgs false
abbrev qL (l : List Rat) : List D := l.map ratD
theorem qL_uni (l : List Rat) : Uni 3 (qL l) := by
  intro x hx
  obtain ⟨p, _, rfl⟩ := List.mem_map.1 hx
  rfl
def pxQ (x0 y0 x1 y1 : Rat) (c r : Int) (j : Nat) : P2 × P2 :=
  ((pxX x0 x1 c (Int.tmod j c), pxY y0 y1 r (Int.tdiv j c + 1)), (pxX x0 x1 c (Int.tmod j c + 1), pxY y0 y1 r (Int.tdiv j c)))
noncomputable def eaSt (x0 y0 x1 y1 : Rat) (c r : Int) (f : FuncId) (cap : List D) (g : Nat → Rat) (i : Nat) : St :=
  ⟨fr 27 [(0, .own 3 0), (1, .d (.p 0 (grD x0 y0 x1 y1 c r).cells)), (8, .d (i64 (c * r))), (9, .d (i64 i))],
   [.dead, .box 34 [.own 2 0], .row 0 27 3 40 (qL ((List.range i).map g)),
    .loop .ready none #[10, 11] (rfO Tryz.f56.body).1 (rfO Tryz.f56.body).2 (fr 19 [(3, .d (.p 0 [.f f cap])), (5, .ptr 1 0 0)])]⟩
theorem each_q {x0 y0 x1 y1 : Rat} {c r : Int} {n : Nat} (h0 : Bd n x0) (h1 : Bd n y0) (h2 : Bd n x1) (h3 : Bd n y1) (hn : n < 100000000) (hcr : 1 ≤ c ∧ c ≤ 128) (hrr : 1 ≤ r ∧ r ≤ 128)
    (f : FuncId) (cap : List D) (g : Nat → Rat) (hf : ∀ j : Nat, (j : Int) < c * r → Fun Tryz.prog f ([sD (pxQ x0 y0 x1 y1 c r j).1 (pxQ x0 y0 x1 y1 c r j).2] ++ cap) [ratD (g j)]) :
    Fun Tryz.prog 56 [grD x0 y0 x1 y1 c r, .f f cap] [.l (qL ((List.range (c.toNat * r.toNat)).map g))] := by
  have k1 : c * r ≤ 128 * 128 := Int.mul_le_mul hcr.2 hrr.2 (by omega) (by omega)
  have k2 : 0 < c * r := Int.mul_pos (by omega) (by omega)
  have kN : ((c.toNat * r.toNat : Nat) : Int) = c * r := by rw [Int.natCast_mul, Int.toNat_of_nonneg (by omega), Int.toNat_of_nonneg (by omega)]
  refine fun_of_go (fun t => t == 5 || t == 7) mixed tOk Tryz.func56 rfl rfl ?_
  conv => whnf
  refine call_data rfl rfl pixels_c ?_
  conv => whnf
  refine okc_own 1 0 27 3 40 ?_
  refine range_intro (g := 145) (cap := [.d (.p 0 (grD x0 y0 x1 y1 c r).cells)]) (fun t => t == 5 || t == 7) mixed tOk rfl rfl rfl rfl rfl ?_
  conv => whnf
  refine sd_d (by omega) ?_
  conv => whnf
  refine loop_introD (fun t => t == 5 || t == 7) (fun i : Nat => eaSt x0 y0 x1 y1 c r f cap g i) (fun i => i ≤ c.toNat * r.toNat) (fun i => c.toNat * r.toNat - i) 0 mixed tOk (by omega) ?_ ?_
  · refine weak_dead 0 rfl ?_
    refine weak_l ?_ ?_ <;> repeat' (first | exact trivial | exact rfl | refine And.intro ?_ ?_)
  · intro i hi
    conv => whnf
    refine cond_d (fun hlt => ?_) (fun hge => ?_)
    · have hfi := hf i hlt
      have hst : qL ((List.range (i + 1)).map g) = qL ((List.range i).map g) ++ [ratD (g i)] := by rw [List.range_succ]; simp [qL]
      have hl : (qL ((List.range i).map g)).length = i := by simp
      conv => whnf
      refine okc_drawY 12 _ (fun t => t == 5 || t == 7) (.tmp 12) [.tmp 13, .tmp 23] mixed tOk rfl rfl ⟨_, rfl⟩ (by kernel_rfl) ?_
      conv => whnf
      have d1 := Int.tmod_nonneg (b := c) (a := (i : Int)) (by omega)
      have d2 := Int.tmod_lt_of_pos (i : Int) (b := c) (by omega)
      have d3 : 0 ≤ Int.tdiv (i : Int) c := Int.tdiv_nonneg (by omega) (by omega)
      have d4 : Int.tdiv (i : Int) c < r := by
        rw [Int.tdiv_eq_ediv_of_nonneg (by omega)]
        exact Int.ediv_lt_of_lt_mul (by omega) (by rw [Int.mul_comm]; exact hlt)
      refine sd_d (by omega) ?_
      conv => whnf
      refine sd_dd (by omega) (by omega) ?_
      conv => whnf
      refine callv_data (pixel_c h0 h1 h2 h3 (by omega) (by omega) (by omega) (by omega) (by omega)) ?_
      conv => whnf
      refine safe_intro (by kernel_rfl) ?_
      conv => whnf
      refine call_yield (fun t => t == 5 || t == 7) mixed tOk rfl rfl rfl ?_
      conv => whnf
      refine okc_go (fun t => t == 5 || t == 7) mixed tOk ?_
      conv => whnf
      refine callv_data hfi ?_
      conv => whnf
      refine sd_app (qL_uni _) (by intro x hx; rcases List.mem_singleton.1 hx with rfl; rfl) (by simp only [maxLen, List.length_cons, List.length_nil]; omega) ?_
      conv => whnf
      refine safe_intro (by kernel_rfl) ?_
      conv => whnf
      refine safe_intro (by kernel_rfl) ?_
      conv => whnf
      refine sd_d (by omega) ?_
      conv => whnf
      refine ⟨i + 1, by omega, by omega, ?_⟩
      unfold eaSt
      rw [hst, Int.natCast_succ]
      refine weak_dead 4 rfl (weak_dead 5 rfl (weak_dead 6 rfl ?_))
      refine weak_l ?_ ?_ <;> repeat' (first | exact trivial | exact rfl | refine And.intro ?_ ?_)
    · have : i = c.toNat * r.toNat := by omega
      subst this
      conv => whnf
      refine ⟨?_, trivial⟩
      conv => whnf
end Go.Nv
end
section
namespace Go.Nv
open Go.Proofs Nw
set_option maxRecDepth 100000
set_option linter.unusedVariables false
set_option linter.unusedSimpArgs false
theorem hoL_zero {o : List P2} : ∀ {hs : List (List (RD × RD))} {pre : List (List P2)}, hoL o pre hs = 0 → ∀ h ∈ hs, rgR h = 0
  | [], pre, _, h, hh => by simp at hh
  | x :: hs, pre, e, h, hh => by
    rw [hoL] at e
    split at e
    · rename_i h1; exact absurd e h1
    · rename_i h1
      split at e
      · rename_i h2; exact absurd e h2
      · rcases List.mem_cons.1 hh with rfl | hh
        · exact Classical.not_not.1 h1
        · exact hoL_zero e h hh
theorem pgE_zero {o : List (RD × RD)} {hs : List (List (RD × RD))} (h : pgE o hs = 0) : rgR o = 0 ∧ (∀ h ∈ hs, rgR h = 0) ∧ hs.length ≤ 8 ∧ hoL (o.map vP) [] hs = 0 := by
  unfold pgE at h
  split at h
  · rename_i h1; exact absurd h h1
  · rename_i h1
    split at h
    · exact absurd h (by decide)
    · rename_i h2
      exact ⟨Classical.not_not.1 h1, hoL_zero h, by omega, h⟩
structure PgOk (o : List (RD × RD)) (hs : List (List (RD × RD))) (n : Nat) : Prop where
  lo : o.length ≤ 100000
  lh : hs.length ≤ 100000
  ob : ∀ p ∈ o, BP n (vP p) ∧ SzP p
  hb : ∀ h ∈ hs, ∀ p ∈ h, BP n (vP p) ∧ SzP p
  hl : ∀ h ∈ hs, h.length ≤ 100000
theorem pcheck_o {o : List (RD × RD)} {hs : List (List (RD × RD))} {n : Nat} (h : PgOk o hs n) (hn : n < 1000000) : Fun Tryz.prog 48 [pgR o hs] [i64 (pgE o hs)] := pcheck_c o hs hn h.lo h.lh h.ob h.hb h.hl
theorem cover_x {o : List (RD × RD)} {hs : List (List (RD × RD))} {n : Nat} (h : PgOk o hs n) (hn : n < 1000000) (a b c d : RD) (ha : Sz a) (hb : Sz b) (hc : Sz c) (hd : Sz d) (hv : vbB a b c d = false) (m k : Int) :
    Fun Tryz.prog 13 [pgR o hs, quR a b c d, i64 m, i64 k] [.l [], i64 1] := by
  refine fun_of_go (fun t => t == 10) mixed tOk Tryz.func13 rfl rfl ?_
  conv => whnf
  refine callv_data (pcheck_o h hn) ?_
  conv => whnf
  refine callv_data (gchkx a b c d ha hb hc hd hv m k _) ?_
  conv => whnf
  refine safe_intro (by kernel_rfl) ?_
  conv => whnf
  refine cond_bt (by decide) ?_
  conv => whnf
  refine ⟨?_, ?_, trivial⟩
  · conv => whnf
  · conv => whnf
theorem cover_p {o : List (RD × RD)} {hs : List (List (RD × RD))} {n : Nat} (h : PgOk o hs n) (hn : n < 1000000) {x0 y0 x1 y1 : Rat} (q0 : Q x0) (q1 : Q y0) (q2 : Q x1) (q3 : Q y1) (hx : x0 < x1) (hy : y0 < y1) (hp : pgE o hs ≠ 0) (m k : Int) :
    Fun Tryz.prog 13 [pgR o hs, quD x0 y0 x1 y1, i64 m, i64 k] [.l [], i64 1] := by
  refine fun_of_go (fun t => t == 10) mixed tOk Tryz.func13 rfl rfl ?_
  conv => whnf
  refine callv_data (pcheck_o h hn) ?_
  conv => whnf
  refine callv_eq (gchk0 q0 q1 q2 q3 hx hy (c := m) (r := k)) (by rw [show bz (pgE o hs == 0) = false by rw [bz_eq]; simpa using hp]; rfl) ?_
  conv => whnf
  refine safe_intro (by kernel_rfl) ?_
  conv => whnf
  refine cond_bt (by decide) ?_
  conv => whnf
  refine ⟨?_, ?_, trivial⟩
  · conv => whnf
  · conv => whnf
theorem cover_s {o : List (RD × RD)} {hs : List (List (RD × RD))} {n : Nat} (h : PgOk o hs n) (hn : n < 1000000) {x0 y0 x1 y1 : Rat} (q0 : Q x0) (q1 : Q y0) (q2 : Q x1) (q3 : Q y1) (hx : x0 < x1) (hy : y0 < y1) (hp : pgE o hs = 0) (m k : Int) (hs' : gcE m k = 2) :
    Fun Tryz.prog 13 [pgR o hs, quD x0 y0 x1 y1, i64 m, i64 k] [.l [], i64 2] := by
  have hg := gchk1 q0 q1 q2 q3 hx hy (c := m) (r := k)
  rw [hs'] at hg
  refine fun_of_go (fun t => t == 10) mixed tOk Tryz.func13 rfl rfl ?_
  conv => whnf
  refine callv_data (pcheck_o h hn) ?_
  conv => whnf
  refine callv_eq hg (by rw [show bz (pgE o hs == 0) = true by rw [bz_eq]; simpa using hp]; rfl) ?_
  conv => whnf
  refine safe_intro (by kernel_rfl) ?_
  conv => whnf
  refine cond_bt (by decide) ?_
  conv => whnf
  refine ⟨?_, ?_, trivial⟩
  · conv => whnf
  · conv => whnf
def cvP (x0 y0 x1 y1 : Rat) (c r : Int) (o : List P2) (hs : List (List P2)) (j : Nat) : Rat :=
  cvQ (pxQ x0 y0 x1 y1 c r j).1.1 (pxQ x0 y0 x1 y1 c r j).1.2 (pxQ x0 y0 x1 y1 c r j).2.1 (pxQ x0 y0 x1 y1 c r j).2.2 o hs
theorem cover_c {o : List (RD × RD)} {hs : List (List (RD × RD))} {n : Nat} (h : PgOk o hs n) (hn : n ≤ 100) {x0 y0 x1 y1 : Rat} (h0 : Bd n x0) (h1 : Bd n y0) (h2 : Bd n x1) (h3 : Bd n y1) (hx : x0 < x1) (hy : y0 < y1) (hp : pgE o hs = 0) {c r : Int} (hcr : 1 ≤ c ∧ c ≤ 128) (hrr : 1 ≤ r ∧ r ≤ 128) :
    Fun Tryz.prog 13 [pgR o hs, quD x0 y0 x1 y1, i64 c, i64 r] [.l (qL ((List.range (c.toNat * r.toNat)).map (cvP x0 y0 x1 y1 c r (o.map vP) (hs.map (List.map vP))))), i64 0] := by
  obtain ⟨z1, z2, z3, z4⟩ := pgE_zero hp
  obtain ⟨o1, o2, o3, o4⟩ := rgR_zero z1
  have hg := gchk1 (.mk h0 (by omega)) (.mk h1 (by omega)) (.mk h2 (by omega)) (.mk h3 (by omega)) hx hy (c := c) (r := r)
  rw [show gcE c r = 0 by unfold gcE; rw [if_neg (by omega)]] at hg
  have hck := pcheck_o h (show n < 1000000 by omega)
  rw [hp] at hck
  have ob : ∀ p ∈ o.map vP, BP n p := fun p hp => by obtain ⟨q, hq, rfl⟩ := List.mem_map.1 hp; exact (h.ob q hq).1
  have hb : ∀ x ∈ hs.map (List.map vP), (∀ p ∈ x, BP n p) ∧ x.length ≤ 100 := fun x hx => by
    obtain ⟨q, hq, rfl⟩ := List.mem_map.1 hx
    refine ⟨fun p hp => by obtain ⟨r, hr, rfl⟩ := List.mem_map.1 hp; exact (h.hb q hq r hr).1, ?_⟩
    have := rgR_zero (z2 q hq)
    rw [List.length_map]; omega
  have ol : (o.map vP).length = o.length := List.length_map ..
  have hhl : (hs.map (List.map vP)).length = hs.length := List.length_map ..
  have epg : pgR o hs = .a [.l (pL (o.map vP)), .l (hQ (hs.map (List.map vP)))] := by
    unfold pgR; rw [rL_can o1, hR_can (fun l hl => (rgR_zero (z2 l hl)).1)]
  rw [epg] at hck ⊢
  generalize o.map vP = o' at *
  generalize hs.map (List.map vP) = hs' at *
  have hea := each_q h0 h1 h2 h3 (by omega) hcr hrr 57 [.p 0 [.l (pL o'), .l (hQ hs')]] (cvP x0 y0 x1 y1 c r o' hs') (fun j hj => by
    have d1 := Int.tmod_nonneg (b := c) (a := (j : Int)) (by omega)
    have d2 := Int.tmod_lt_of_pos (j : Int) (b := c) (by omega)
    have d3 : 0 ≤ Int.tdiv (j : Int) c := Int.tdiv_nonneg (by omega) (by omega)
    have d4 : Int.tdiv (j : Int) c < r := by
      rw [Int.tdiv_eq_ediv_of_nonneg (by omega)]
      exact Int.ediv_lt_of_lt_mul (by omega) (by rw [Int.mul_comm]; exact hj)
    exact cover1_c (pxX_bd (c := c) h0 h2 (by omega) (by omega)) (pxY_bd (c := r) h1 h3 (by omega) (by omega)) (pxX_bd (c := c) h0 h2 (by omega) (by omega)) (pxY_bd (c := r) h1 h3 (by omega) (by omega)) ob hb hn (by omega) (by omega) (by omega))
  refine fun_of_go (fun t => t == 10) mixed tOk Tryz.func13 rfl rfl ?_
  conv => whnf
  refine callv_data hck ?_
  conv => whnf
  refine callv_eq hg (by simp only [bz_eq]; rfl) ?_
  conv => whnf
  refine safe_intro (by kernel_rfl) ?_
  conv => whnf
  refine cond_bf (by decide) ?_
  conv => whnf
  refine call_data rfl rfl hea ?_
  conv => whnf
  refine ⟨?_, ?_, trivial⟩
  · conv => whnf
  · conv => whnf
end Go.Nv
end
section
namespace Go.Nv
open Go.Proofs Nw
set_option maxRecDepth 100000
set_option linter.unusedVariables false
set_option linter.unusedSimpArgs false
def gtH (h : List (RD × RD)) : Bool := decide (6 < h.length) || h.any gtP
@[irreducible] def g11 (o : List (RD × RD)) (hs : List (List (RD × RD))) : Bool :=
  decide ((10 < o.length ∧ o.length ≤ 64) ∨ 67 < o.length) || (o.any gtP || ((hs.take 11).any gtH || decide ((3 < hs.length ∧ hs.length ≤ 8) ∨ 10 < hs.length)))
theorem great11_c (o : List (RD × RD)) (hs : List (List (RD × RD))) : Fun Tryz.prog 102 [pgR o hs] [.v (.bool (g11 o hs))] := by
  have hlo : (rL o).length = o.length := by simp
  have hlh : (hR hs).length = hs.length := by simp
  have t1 : ((10 < o.length ∧ o.length ≤ 64) ∨ 67 < o.length) → g11 o hs = true := fun h => by unfold g11; rw [decide_eq_true h]; rfl
  have t2 : o.any gtP = true → g11 o hs = true := fun h => by unfold g11; rw [h]; simp
  have t3 : (hs.take 11).any gtH = true → g11 o hs = true := fun h => by unfold g11; rw [h]; simp
  refine fun_of_go (fun t => false) mixed tOk Tryz.func102 rfl rfl ?_
  conv => whnf
  refine cond_d (fun c1 => ?_) (fun c1 => ?_)
  · conv => whnf
    refine cond_d (fun c2 => ?_) (fun c2 => ?_)
    · rw [t1 (.inl (by omega))]
      conv => whnf
      exact ⟨rfl, trivial⟩
    · conv => whnf
      refine cond_d (fun c3 => ?_) (fun c3 => ?_)
      · rw [t1 (.inr (by omega))]
        conv => whnf
        exact ⟨rfl, trivial⟩
      · have Y0 : ¬ ((10 < o.length ∧ o.length ≤ 64) ∨ 67 < o.length) := by omega
        conv => whnf
        refine call_data rfl rfl (great7 o (by omega)) ?_
        conv => whnf
        refine cond_intro (fun c2 => ?_) (fun c2 => ?_)
        · rw [t2 c2]
          conv => whnf
          exact ⟨rfl, trivial⟩
        · have Z : ¬ ((10 < o.length ∧ o.length ≤ 64) ∨ 67 < o.length) ∧ o.any gtP = false := ⟨Y0, c2⟩
          conv => whnf
          refine loop_intro (fun t => false) (fun i : Nat => ⟨fr 65 [(1, .d (.p 0 [.l (rL o), .l (hR hs)])), (4, .d (i64 i))], []⟩) (fun i => i ≤ hs.length ∧ i ≤ 11 ∧ (hs.take i).any gtH = false) (fun i => hs.length - i) 0 mixed tOk ⟨by omega, by omega, rfl⟩ ?_ ?_
          · refine weak_r ?_ ?_ <;> repeat' (first | exact trivial | exact rfl | refine And.intro ?_ ?_)
          · rintro i ⟨hi, hi2, hno⟩
            have fin : (hs.length ≤ i ∨ 11 ≤ i) → (hs.take 11).any gtH = false := fun h => by
              rcases h with h | h
              · have : i = hs.length := by omega
                subst this
                rw [List.take_length] at hno
                rw [List.any_eq_false] at hno ⊢
                exact fun x hx => hno x (List.mem_of_mem_take hx)
              · have : i = 11 := by omega
                subst this; exact hno
            conv => whnf
            refine cond_d (fun hlt => ?_) (fun hge => ?_)
            · have hlt' : i < hs.length := by omega
              conv => whnf
              refine cond_d (fun h11 => ?_) (fun h11 => ?_)
              · have tk : (hs.take (i + 1)).any gtH = ((hs.take i).any gtH || gtH hs[i]) := by rw [List.take_succ_eq_append_getElem hlt', List.any_append]; simp
                have hin : gtH hs[i] = true → (hs.take 11).any gtH = true := fun h => List.any_eq_true.2 ⟨hs[i], List.mem_take_iff_getElem.2 ⟨i, by omega, rfl⟩, h⟩
                have hll : (rL hs[i]).length = hs[i].length := List.length_map ..
                have hget := hR_get hlt'
                generalize hs[i] = h at *
                conv => whnf
                refine idx_intro (.l (rL h)) hget (by omega) (hR_uni _) ?_
                conv => whnf
                refine cond_d (fun d1 => ?_) (fun d1 => ?_)
                · rw [t3 (hin (by unfold gtH; rw [decide_eq_true (by omega)]; rfl))]
                  conv => whnf
                  exact ⟨rfl, trivial⟩
                · conv => whnf
                  refine idx_intro (.l (rL h)) hget (by omega) (hR_uni _) ?_
                  conv => whnf
                  refine call_data rfl rfl (great7 h (by omega)) ?_
                  conv => whnf
                  refine cond_intro (fun d2 => ?_) (fun d2 => ?_)
                  · rw [t3 (hin (by unfold gtH; rw [d2]; simp))]
                    conv => whnf
                    exact ⟨rfl, trivial⟩
                  · conv => whnf
                    refine sd_d (by omega) ?_
                    conv => whnf
                    refine ⟨i + 1, ⟨by omega, by omega, ?_⟩, by omega, ?_⟩
                    · rw [tk, hno]; unfold gtH; rw [d2, decide_eq_false (by omega)]; rfl
                    rw [Int.natCast_succ]
                    refine weak_r ?_ ?_ <;> repeat' (first | exact trivial | exact rfl | refine And.intro ?_ ?_)
              · have e : g11 o hs = decide ((3 < hs.length ∧ hs.length ≤ 8) ∨ 10 < hs.length) := by
                  unfold g11; rw [decide_eq_false Z.1, Z.2, fin (.inr (by omega))]; rfl
                rw [e]
                conv => whnf
                refine cond_d (fun d1 => ?_) (fun d1 => ?_)
                · conv => whnf
                  refine cond_d (fun d2 => ?_) (fun d2 => ?_)
                  · conv => whnf
                    refine ⟨?_, trivial⟩
                    conv => whnf
                    rw [decide_eq_true (by omega)]
                  · conv => whnf
                    refine ⟨?_, trivial⟩
                    conv => whnf
                    rw [bz_eq, decide_eq_decide]; omega
                · conv => whnf
                  refine ⟨?_, trivial⟩
                  conv => whnf
                  rw [bz_eq, decide_eq_decide]; omega
            · have e : g11 o hs = decide ((3 < hs.length ∧ hs.length ≤ 8) ∨ 10 < hs.length) := by
                unfold g11; rw [decide_eq_false Z.1, Z.2, fin (.inl (by omega))]; rfl
              rw [e]
              conv => whnf
              refine cond_d (fun d1 => ?_) (fun d1 => ?_)
              · conv => whnf
                refine cond_d (fun d2 => ?_) (fun d2 => ?_)
                · conv => whnf
                  refine ⟨?_, trivial⟩
                  conv => whnf
                  rw [decide_eq_true (by omega)]
                · conv => whnf
                  refine ⟨?_, trivial⟩
                  conv => whnf
                  rw [bz_eq, decide_eq_decide]; omega
              · conv => whnf
                refine ⟨?_, trivial⟩
                conv => whnf
                rw [bz_eq, decide_eq_decide]; omega
  · conv => whnf
    refine cond_d (fun c3 => ?_) (fun c3 => ?_)
    · rw [t1 (.inr (by omega))]
      conv => whnf
      exact ⟨rfl, trivial⟩
    · have Y0 : ¬ ((10 < o.length ∧ o.length ≤ 64) ∨ 67 < o.length) := by omega
      conv => whnf
      refine call_data rfl rfl (great7 o (by omega)) ?_
      conv => whnf
      refine cond_intro (fun c2 => ?_) (fun c2 => ?_)
      · rw [t2 c2]
        conv => whnf
        exact ⟨rfl, trivial⟩
      · have Z : ¬ ((10 < o.length ∧ o.length ≤ 64) ∨ 67 < o.length) ∧ o.any gtP = false := ⟨Y0, c2⟩
        conv => whnf
        refine loop_intro (fun t => false) (fun i : Nat => ⟨fr 65 [(1, .d (.p 0 [.l (rL o), .l (hR hs)])), (4, .d (i64 i))], []⟩) (fun i => i ≤ hs.length ∧ i ≤ 11 ∧ (hs.take i).any gtH = false) (fun i => hs.length - i) 0 mixed tOk ⟨by omega, by omega, rfl⟩ ?_ ?_
        · refine weak_r ?_ ?_ <;> repeat' (first | exact trivial | exact rfl | refine And.intro ?_ ?_)
        · rintro i ⟨hi, hi2, hno⟩
          have fin : (hs.length ≤ i ∨ 11 ≤ i) → (hs.take 11).any gtH = false := fun h => by
            rcases h with h | h
            · have : i = hs.length := by omega
              subst this
              rw [List.take_length] at hno
              rw [List.any_eq_false] at hno ⊢
              exact fun x hx => hno x (List.mem_of_mem_take hx)
            · have : i = 11 := by omega
              subst this; exact hno
          conv => whnf
          refine cond_d (fun hlt => ?_) (fun hge => ?_)
          · have hlt' : i < hs.length := by omega
            conv => whnf
            refine cond_d (fun h11 => ?_) (fun h11 => ?_)
            · have tk : (hs.take (i + 1)).any gtH = ((hs.take i).any gtH || gtH hs[i]) := by rw [List.take_succ_eq_append_getElem hlt', List.any_append]; simp
              have hin : gtH hs[i] = true → (hs.take 11).any gtH = true := fun h => List.any_eq_true.2 ⟨hs[i], List.mem_take_iff_getElem.2 ⟨i, by omega, rfl⟩, h⟩
              have hll : (rL hs[i]).length = hs[i].length := List.length_map ..
              have hget := hR_get hlt'
              generalize hs[i] = h at *
              conv => whnf
              refine idx_intro (.l (rL h)) hget (by omega) (hR_uni _) ?_
              conv => whnf
              refine cond_d (fun d1 => ?_) (fun d1 => ?_)
              · rw [t3 (hin (by unfold gtH; rw [decide_eq_true (by omega)]; rfl))]
                conv => whnf
                exact ⟨rfl, trivial⟩
              · conv => whnf
                refine idx_intro (.l (rL h)) hget (by omega) (hR_uni _) ?_
                conv => whnf
                refine call_data rfl rfl (great7 h (by omega)) ?_
                conv => whnf
                refine cond_intro (fun d2 => ?_) (fun d2 => ?_)
                · rw [t3 (hin (by unfold gtH; rw [d2]; simp))]
                  conv => whnf
                  exact ⟨rfl, trivial⟩
                · conv => whnf
                  refine sd_d (by omega) ?_
                  conv => whnf
                  refine ⟨i + 1, ⟨by omega, by omega, ?_⟩, by omega, ?_⟩
                  · rw [tk, hno]; unfold gtH; rw [d2, decide_eq_false (by omega)]; rfl
                  rw [Int.natCast_succ]
                  refine weak_r ?_ ?_ <;> repeat' (first | exact trivial | exact rfl | refine And.intro ?_ ?_)
            · have e : g11 o hs = decide ((3 < hs.length ∧ hs.length ≤ 8) ∨ 10 < hs.length) := by
                unfold g11; rw [decide_eq_false Z.1, Z.2, fin (.inr (by omega))]; rfl
              rw [e]
              conv => whnf
              refine cond_d (fun d1 => ?_) (fun d1 => ?_)
              · conv => whnf
                refine cond_d (fun d2 => ?_) (fun d2 => ?_)
                · conv => whnf
                  refine ⟨?_, trivial⟩
                  conv => whnf
                  rw [decide_eq_true (by omega)]
                · conv => whnf
                  refine ⟨?_, trivial⟩
                  conv => whnf
                  rw [bz_eq, decide_eq_decide]; omega
              · conv => whnf
                refine ⟨?_, trivial⟩
                conv => whnf
                rw [bz_eq, decide_eq_decide]; omega
          · have e : g11 o hs = decide ((3 < hs.length ∧ hs.length ≤ 8) ∨ 10 < hs.length) := by
              unfold g11; rw [decide_eq_false Z.1, Z.2, fin (.inl (by omega))]; rfl
            rw [e]
            conv => whnf
            refine cond_d (fun d1 => ?_) (fun d1 => ?_)
            · conv => whnf
              refine cond_d (fun d2 => ?_) (fun d2 => ?_)
              · conv => whnf
                refine ⟨?_, trivial⟩
                conv => whnf
                rw [decide_eq_true (by omega)]
              · conv => whnf
                refine ⟨?_, trivial⟩
                conv => whnf
                rw [bz_eq, decide_eq_decide]; omega
            · conv => whnf
              refine ⟨?_, trivial⟩
              conv => whnf
              rw [bz_eq, decide_eq_decide]; omega
end Go.Nv
end
