import Derived.Test.YtdjbkccoofcnjaaGreatNvD3
import Derived.Test.YtdjbkccoofcnjaaGreatNvP1
import Derived.Test.YtdjbkccoofcnjaaGreatNvP3
set_option linter.all false
set_option linter.unusedVariables false
set_option linter.unusedSimpArgs false
section
namespace Go.Nv
open Go.Proofs Nw
set_option maxRecDepth 100000
set_option linter.unusedVariables false
set_option linter.unusedSimpArgs false
theorem ws1_c {x0 y0 x1 y1 x y : Rat} (h1 : Q x0) (h5 : Q x) : Fun Tryz.prog 128 [ptD x y, .p 0 (quD x0 y0 x1 y1).cells] [ratD (x - x0)] := by
  refine fun_of_go (fun t => t == 3) mixed tOk Tryz.func128 rfl rfl ?_
  conv => whnf
  refine call_data rfl rfl (sub_q h5 h1) ?_
  conv => whnf
  refine ⟨?_, trivial⟩
  conv => whnf
  exact ⟨rfl, rfl, rfl, trivial⟩
theorem ws2_c {x0 y0 x1 y1 x y : Rat} (h1 : Q x1) (h5 : Q x) : Fun Tryz.prog 129 [ptD x y, .p 0 (quD x0 y0 x1 y1).cells] [ratD (x1 - x)] := by
  refine fun_of_go (fun t => t == 3) mixed tOk Tryz.func129 rfl rfl ?_
  conv => whnf
  refine call_data rfl rfl (sub_q h1 h5) ?_
  conv => whnf
  refine ⟨?_, trivial⟩
  conv => whnf
  exact ⟨rfl, rfl, rfl, trivial⟩
theorem ws3_c {x0 y0 x1 y1 x y : Rat} (h1 : Q y0) (h5 : Q y) : Fun Tryz.prog 130 [ptD x y, .p 0 (quD x0 y0 x1 y1).cells] [ratD (y - y0)] := by
  refine fun_of_go (fun t => t == 3) mixed tOk Tryz.func130 rfl rfl ?_
  conv => whnf
  refine call_data rfl rfl (sub_q h5 h1) ?_
  conv => whnf
  refine ⟨?_, trivial⟩
  conv => whnf
  exact ⟨rfl, rfl, rfl, trivial⟩
theorem ws4_c {x0 y0 x1 y1 x y : Rat} (h1 : Q y1) (h5 : Q y) : Fun Tryz.prog 131 [ptD x y, .p 0 (quD x0 y0 x1 y1).cells] [ratD (y1 - y)] := by
  refine fun_of_go (fun t => t == 3) mixed tOk Tryz.func131 rfl rfl ?_
  conv => whnf
  refine call_data rfl rfl (sub_q h1 h5) ?_
  conv => whnf
  refine ⟨?_, trivial⟩
  conv => whnf
  exact ⟨rfl, rfl, rfl, trivial⟩
def box1 (x0 : Rat) (l : List P2) := cut ⟨true, true, x0⟩ l
def box2 (x0 x1 : Rat) (l : List P2) := cut ⟨true, false, x1⟩ (box1 x0 l)
def box3 (x0 y0 x1 : Rat) (l : List P2) := cut ⟨false, true, y0⟩ (box2 x0 x1 l)
def wiQ (x0 y0 x1 y1 : Rat) (l : List P2) : Rat := boxA x0 y0 x1 y1 l / 2
@[irreducible] def wBd : Nat := 8000004001
theorem wBd_eq : wBd = 8000004001 := by unfold wBd; rfl
structure Wi (x0 y0 x1 y1 : Rat) (l : List P2) : Prop where
  pts : ∀ p ∈ box4 x0 y0 x1 y1 l, BP 999999 p
  len : (box4 x0 y0 x1 y1 l).length ≤ 2000
theorem wi_of {x0 y0 x1 y1 : Rat} {l : List P2} {n k : Nat} (h0 : Bd k x0) (h1 : Bd k y0) (h2 : Bd k x1) (h3 : Bd k y1) (hl : ∀ p ∈ l, BP n p) (hn : n ≤ 100) (hk : k ≤ 1000) (hlen : l.length ≤ 100) : Wi x0 y0 x1 y1 l := by
  have a1 := cut_bp (H := ⟨true, true, x0⟩) h0 hl
  have a2 := cut_bp (H := ⟨true, false, x1⟩) h2 a1
  have a3 := cut_bp (H := ⟨false, true, y0⟩) h1 a2
  have a4 := cut_bp (H := ⟨false, false, y1⟩) h3 a3
  have l1 := cut_len ⟨true, true, x0⟩ l
  have l2 := cut_len ⟨true, false, x1⟩ (cut ⟨true, true, x0⟩ l)
  have l3 := cut_len ⟨false, true, y0⟩ (cut ⟨true, false, x1⟩ (cut ⟨true, true, x0⟩ l))
  have l4 := cut_len ⟨false, false, y1⟩ (cut ⟨false, true, y0⟩ (cut ⟨true, false, x1⟩ (cut ⟨true, true, x0⟩ l)))
  exact ⟨fun p hp => (a4 p hp).mono (by omega), by unfold box4; omega⟩
theorem wnum {m N w : Nat} (h : m ≤ 2000) (hN : N ≤ 4000000) (hw : w = 8000004001) : m * N + 1 ≤ w := by
  have h1 := Nat.mul_le_mul h hN
  rw [hw]
  omega
theorem wiQ_bd {x0 y0 x1 y1 : Rat} {l : List P2} (h : Wi x0 y0 x1 y1 l) : Bd wBd (wiQ x0 y0 x1 y1 l) := by
  have h1 := area_bd h.pts _ (Nat.le_refl _)
  rw [tot_all] at h1
  exact (h1.div (bd_int 2 (n := 1) (by decide))).mono (wnum h.len (by decide) wBd_eq)
theorem rwithin_c {x0 y0 x1 y1 : Rat} {l : List P2} {n k : Nat} (h0 : Bd k x0) (h1 : Bd k y0) (h2 : Bd k x1) (h3 : Bd k y1) (hl : ∀ p ∈ l, BP n p) (hn : n ≤ 100) (hk : k ≤ 1000) (hlen : l.length ≤ 100) :
    Fun Tryz.prog 58 [.l (pL l), quD x0 y0 x1 y1] [ratD (wiQ x0 y0 x1 y1 l)] := by
  have hw := wi_of h0 h1 h2 h3 hl hn hk hlen
  have a1 := cut_bp (H := ⟨true, true, x0⟩) h0 hl
  have a2 := cut_bp (H := ⟨true, false, x1⟩) h2 a1
  have a3 := cut_bp (H := ⟨false, true, y0⟩) h1 a2
  have l1 := cut_len ⟨true, true, x0⟩ l
  have l2 := cut_len ⟨true, false, x1⟩ (cut ⟨true, true, x0⟩ l)
  have l3 := cut_len ⟨false, true, y0⟩ (cut ⟨true, false, x1⟩ (cut ⟨true, true, x0⟩ l))
  have c1 := cut_c 128 [.p 0 (quD x0 y0 x1 y1).cells] ⟨true, true, x0⟩ l h0 hl (by omega) (by omega) (by omega) (fun p hp => by
    rw [hx_up]; exact ws1_c (.mk h0 (by omega)) (.mk (hl p hp).1 (by omega)))
  have c2 := cut_c 129 [.p 0 (quD x0 y0 x1 y1).cells] ⟨true, false, x1⟩ _ h2 a1 (by omega) (by omega) (by omega) (fun p hp => by
    rw [hx_dn]; exact ws2_c (.mk h2 (by omega)) (.mk (a1 p hp).1 (by omega)))
  have c3 := cut_c 130 [.p 0 (quD x0 y0 x1 y1).cells] ⟨false, true, y0⟩ _ h1 a2 (by omega) (by omega) (by omega) (fun p hp => by
    rw [hy_up]; exact ws3_c (.mk h1 (by omega)) (.mk (a2 p hp).2 (by omega)))
  have c4 := cut_c 131 [.p 0 (quD x0 y0 x1 y1).cells] ⟨false, false, y1⟩ _ h3 a3 (by omega) (by omega) (by omega) (fun p hp => by
    rw [hy_dn]; exact ws4_c (.mk h3 (by omega)) (.mk (a3 p hp).2 (by omega)))
  have c5 := area_c (box4 x0 y0 x1 y1 l) hw.pts (by omega) hw.len
  refine fun_of_go (fun t => t == 4) mixed tOk Tryz.func58 rfl rfl ?_
  conv => whnf
  refine call_data rfl rfl c1 ?_
  conv => whnf
  refine call_data rfl rfl c2 ?_
  conv => whnf
  refine call_data rfl rfl c3 ?_
  conv => whnf
  refine call_data rfl rfl c4 ?_
  conv => whnf
  refine call_data rfl rfl c5 ?_
  conv => whnf
  refine ⟨?_, trivial⟩
  conv => whnf
  exact ⟨rfl, rfl, rfl, trivial⟩
def cvS (x0 y0 x1 y1 : Rat) (o : List P2) (hs : List (List P2)) : Rat := hs.foldl (fun a h => a - wiQ x0 y0 x1 y1 h) (wiQ x0 y0 x1 y1 o)
def cvQ (x0 y0 x1 y1 : Rat) (o : List P2) (hs : List (List P2)) : Rat := cvS x0 y0 x1 y1 o hs / ((x1 - x0) * (y1 - y0))
theorem cvS_take {x0 y0 x1 y1 : Rat} {o : List P2} {hs : List (List P2)} {i : Nat} (h : i < hs.length) : cvS x0 y0 x1 y1 o (hs.take (i + 1)) = cvS x0 y0 x1 y1 o (hs.take i) - wiQ x0 y0 x1 y1 hs[i] := by
  unfold cvS; rw [List.take_succ_eq_append_getElem h, List.foldl_append]; rfl
theorem cvS_bd {x0 y0 x1 y1 : Rat} {o : List P2} {hs : List (List P2)} (ho : Wi x0 y0 x1 y1 o) (hh : ∀ h ∈ hs, Wi x0 y0 x1 y1 h) : ∀ i, i ≤ hs.length → Bd ((i + 1) * (wBd + 1)) (cvS x0 y0 x1 y1 o (hs.take i))
  | 0, _ => by
    show Bd _ (wiQ x0 y0 x1 y1 o)
    exact (wiQ_bd ho).mono (by omega)
  | i + 1, h => by
    rw [cvS_take h]
    exact ((cvS_bd ho hh i (by omega)).sub (wiQ_bd (hh _ (List.getElem_mem h)))).mono (by rw [Nat.add_mul (i + 1) 1]; omega)
theorem cover1_c {x0 y0 x1 y1 : Rat} {o : List P2} {hs : List (List P2)} {n k : Nat} (h0 : Bd k x0) (h1 : Bd k y0) (h2 : Bd k x1) (h3 : Bd k y1) (hl : ∀ p ∈ o, BP n p) (hhl : ∀ h ∈ hs, (∀ p ∈ h, BP n p) ∧ h.length ≤ 100) (hn : n ≤ 100) (hk : k ≤ 1000) (hlen : o.length ≤ 100) (hhs : hs.length ≤ 8) :
    Fun Tryz.prog 57 [quD x0 y0 x1 y1, .p 0 [.l (pL o), .l (hQ hs)]] [ratD (cvQ x0 y0 x1 y1 o hs)] := by
  have hll : (hQ hs).length = hs.length := by simp
  have wo := wi_of h0 h1 h2 h3 hl hn hk hlen
  have wh : ∀ h ∈ hs, Wi x0 y0 x1 y1 h := fun h hh => wi_of h0 h1 h2 h3 (hhl h hh).1 hn hk (hhl h hh).2
  have hb := cvS_bd wo wh
  have hwb := wBd_eq
  have hbb : ∀ i, i ≤ hs.length → (i + 1) * (wBd + 1) ≤ 9 * (wBd + 1) := fun i hi => Nat.mul_le_mul_right _ (by omega)
  refine fun_of_go (fun t => t == 3 || t == 4 || t == 7 || t == 8) mixed tOk Tryz.func57 rfl rfl ?_
  conv => whnf
  refine call_data rfl rfl (rwithin_c h0 h1 h2 h3 hl hn hk hlen) ?_
  conv => whnf
  refine loop_intro (fun t => t == 3 || t == 4 || t == 7 || t == 8) (fun i : Nat => ⟨fr 43 [(2, .d (.p 0 (quD x0 y0 x1 y1).cells)), (3, .ptr 0 0 0), (4, .ptr 1 0 0), (15, .d (.l (hQ hs))), (16, .d (i64 (hQ hs).length)), (17, .d (i64 i))],
    [.box 27 [.d (.v (.bool false)), .d (.v (.string emp)), .d (.v (.string emp))], .box 27 ((ratD (cvS x0 y0 x1 y1 o (hs.take i))).cells.map .d)]⟩) (fun i => i ≤ hs.length) (fun i => hs.length - i) 0 mixed tOk (by omega) ?_ ?_
  · refine weak_r ?_ ?_ <;> repeat' (first | exact trivial | exact rfl | refine And.intro ?_ ?_)
  · intro i hi
    have hbi := hb i hi
    have hbbi := hbb i hi
    conv => whnf
    refine cond_d (fun hlt => ?_) (fun hge => ?_)
    · have hlt' : i < hs.length := by omega
      have hm := hhl _ (List.getElem_mem hlt')
      have hwi := wiQ_bd (wh _ (List.getElem_mem hlt'))
      have est := cvS_take (x0 := x0) (y0 := y0) (x1 := x1) (y1 := y1) (o := o) hlt'
      conv => whnf
      refine idx_intro (.l (pL hs[i])) (hQ_get hlt') (by omega) (hQ_uni _) ?_
      conv => whnf
      refine callv_data (rwithin_c h0 h1 h2 h3 hm.1 hn hk hm.2) ?_
      conv => whnf
      refine callv_data (sub_q (.mk hbi (by omega)) (.mk hwi (by omega))) ?_
      conv => whnf
      refine safe_intro (by kernel_rfl) ?_
      conv => whnf
      refine sd_d (by omega) ?_
      conv => whnf
      refine ⟨i + 1, by omega, by omega, ?_⟩
      rw [est, Int.natCast_succ]
      refine weak_r ?_ ?_ <;> repeat' (first | exact trivial | exact rfl | refine And.intro ?_ ?_)
    · have : i = hs.length := by omega
      subst this
      rw [List.take_length] at hbi ⊢
      have bd : Bd (4 * k + 2) ((x1 - x0) * (y1 - y0)) := ((h2.sub h0).mul (h3.sub h1)).mono (by omega)
      conv => whnf
      refine call_data rfl rfl (vsub_c (.mk h2 (by omega)) (.mk h3 (by omega)) (.mk h0 (by omega)) (.mk h1 (by omega))) ?_
      conv => whnf
      refine callv_data (mul_q (.mk (h2.sub h0) (by omega)) (.mk (h3.sub h1) (by omega))) ?_
      conv => whnf
      refine callv_data (quo_q (.mk hbi (by omega)) (.mk bd (by omega))) ?_
      conv => whnf
      refine safe_intro (by kernel_rfl) ?_
      conv => whnf
      refine ⟨?_, trivial⟩
      conv => whnf
      exact ⟨rfl, rfl, rfl, trivial⟩
end Go.Nv
end
section
namespace Go.Nv
open Go.Proofs Nw
set_option maxRecDepth 100000
set_option linter.unusedVariables false
set_option linter.unusedSimpArgs false
abbrev qL (l : List Rat) : List D := l.map ratD
theorem qL_uni (l : List Rat) : Uni 3 (qL l) := by
  intro x hx
  obtain ⟨p, _, rfl⟩ := List.mem_map.1 hx
  rfl
def pxQ (x0 y0 x1 y1 : Rat) (c r : Int) (j : Nat) : P2 × P2 :=
  ((pxX x0 x1 c (Int.tmod j c), pxY y0 y1 r (Int.tdiv j c + 1)), (pxX x0 x1 c (Int.tmod j c + 1), pxY y0 y1 r (Int.tdiv j c)))
noncomputable def eaSt (x0 y0 x1 y1 : Rat) (c r : Int) (f : FuncId) (cap : List D) (g : Nat → Rat) (i : Nat) : St :=
  ⟨fr 27 [(0, .own 3 0), (1, .d (.p 0 (grD x0 y0 x1 y1 c r).cells)), (8, .d (i64 (c * r))), (9, .d (i64 i))],
   [.dead, .box 34 [.own 2 0], .row 0 27 3 40 (qL ((List.range i).map g)),
    .loop .ready none #[10, 11] (rfO Tryz.f56.body).1 (rfO Tryz.f56.body).2 (fr 19 [(3, .d (.p 0 [.f f cap])), (5, .ptr 1 0 0)])]⟩
theorem each_q {x0 y0 x1 y1 : Rat} {c r : Int} {n : Nat} (h0 : Bd n x0) (h1 : Bd n y0) (h2 : Bd n x1) (h3 : Bd n y1) (hn : n < 100000000) (hcr : 1 ≤ c ∧ c ≤ 128) (hrr : 1 ≤ r ∧ r ≤ 128)
    (f : FuncId) (cap : List D) (g : Nat → Rat) (hf : ∀ j : Nat, (j : Int) < c * r → Fun Tryz.prog f ([sD (pxQ x0 y0 x1 y1 c r j).1 (pxQ x0 y0 x1 y1 c r j).2] ++ cap) [ratD (g j)]) :
    Fun Tryz.prog 56 [grD x0 y0 x1 y1 c r, .f f cap] [.l (qL ((List.range (c.toNat * r.toNat)).map g))] := by
  have k1 : c * r ≤ 128 * 128 := Int.mul_le_mul hcr.2 hrr.2 (by omega) (by omega)
  have k2 : 0 < c * r := Int.mul_pos (by omega) (by omega)
  have kN : ((c.toNat * r.toNat : Nat) : Int) = c * r := by rw [Int.natCast_mul, Int.toNat_of_nonneg (by omega), Int.toNat_of_nonneg (by omega)]
  refine fun_of_go (fun t => t == 5 || t == 7) mixed tOk Tryz.func56 rfl rfl ?_
  conv => whnf
  refine call_data rfl rfl pixels_c ?_
  conv => whnf
  refine okc_own 1 0 27 3 40 ?_
  refine range_intro (g := 145) (cap := [.d (.p 0 (grD x0 y0 x1 y1 c r).cells)]) (fun t => t == 5 || t == 7) mixed tOk rfl rfl rfl rfl rfl ?_
  conv => whnf
  refine sd_d (by omega) ?_
  conv => whnf
  refine loop_introD (fun t => t == 5 || t == 7) (fun i : Nat => eaSt x0 y0 x1 y1 c r f cap g i) (fun i => i ≤ c.toNat * r.toNat) (fun i => c.toNat * r.toNat - i) 0 mixed tOk (by omega) ?_ ?_
  · refine weak_dead 0 rfl ?_
    refine weak_l ?_ ?_ <;> repeat' (first | exact trivial | exact rfl | refine And.intro ?_ ?_)
  · intro i hi
    conv => whnf
    refine cond_d (fun hlt => ?_) (fun hge => ?_)
    · have hfi := hf i hlt
      have hst : qL ((List.range (i + 1)).map g) = qL ((List.range i).map g) ++ [ratD (g i)] := by rw [List.range_succ]; simp [qL]
      have hl : (qL ((List.range i).map g)).length = i := by simp
      conv => whnf
      refine okc_drawY 12 _ (fun t => t == 5 || t == 7) (.tmp 12) [.tmp 13, .tmp 23] mixed tOk rfl rfl ⟨_, rfl⟩ (by kernel_rfl) ?_
      conv => whnf
      have d1 := Int.tmod_nonneg (b := c) (a := (i : Int)) (by omega)
      have d2 := Int.tmod_lt_of_pos (i : Int) (b := c) (by omega)
      have d3 : 0 ≤ Int.tdiv (i : Int) c := Int.tdiv_nonneg (by omega) (by omega)
      have d4 : Int.tdiv (i : Int) c < r := by
        rw [Int.tdiv_eq_ediv_of_nonneg (by omega)]
        exact Int.ediv_lt_of_lt_mul (by omega) (by rw [Int.mul_comm]; exact hlt)
      refine sd_d (by omega) ?_
      conv => whnf
      refine sd_dd (by omega) (by omega) ?_
      conv => whnf
      refine callv_data (pixel_c h0 h1 h2 h3 (by omega) (by omega) (by omega) (by omega) (by omega)) ?_
      conv => whnf
      refine safe_intro (by kernel_rfl) ?_
      conv => whnf
      refine call_yield (fun t => t == 5 || t == 7) mixed tOk rfl rfl rfl ?_
      conv => whnf
      refine okc_go (fun t => t == 5 || t == 7) mixed tOk ?_
      conv => whnf
      refine callv_data hfi ?_
      conv => whnf
      refine sd_app (qL_uni _) (by intro x hx; rcases List.mem_singleton.1 hx with rfl; rfl) (by simp only [maxLen, List.length_cons, List.length_nil]; omega) ?_
      conv => whnf
      refine safe_intro (by kernel_rfl) ?_
      conv => whnf
      refine safe_intro (by kernel_rfl) ?_
      conv => whnf
      refine sd_d (by omega) ?_
      conv => whnf
      refine ⟨i + 1, by omega, by omega, ?_⟩
      unfold eaSt
      rw [hst, Int.natCast_succ]
      refine weak_dead 4 rfl (weak_dead 5 rfl (weak_dead 6 rfl ?_))
      refine weak_l ?_ ?_ <;> repeat' (first | exact trivial | exact rfl | refine And.intro ?_ ?_)
    · have : i = c.toNat * r.toNat := by omega
      subst this
      conv => whnf
      refine ⟨?_, trivial⟩
      conv => whnf
end Go.Nv
end
section
namespace Go.Nv
open Go.Proofs Nw
set_option maxRecDepth 100000
set_option linter.unusedVariables false
set_option linter.unusedSimpArgs false
theorem hoL_zero {o : List P2} : ∀ {hs : List (List (RD × RD))} {pre : List (List P2)}, hoL o pre hs = 0 → ∀ h ∈ hs, rgR h = 0
  | [], pre, _, h, hh => by simp at hh
  | x :: hs, pre, e, h, hh => by
    rw [hoL] at e
    split at e
    · rename_i h1; exact absurd e h1
    · rename_i h1
      split at e
      · rename_i h2; exact absurd e h2
      · rcases List.mem_cons.1 hh with rfl | hh
        · exact Classical.not_not.1 h1
        · exact hoL_zero e h hh
theorem pgE_zero {o : List (RD × RD)} {hs : List (List (RD × RD))} (h : pgE o hs = 0) : rgR o = 0 ∧ (∀ h ∈ hs, rgR h = 0) ∧ hs.length ≤ 8 ∧ hoL (o.map vP) [] hs = 0 := by
  unfold pgE at h
  split at h
  · rename_i h1; exact absurd h h1
  · rename_i h1
    split at h
    · exact absurd h (by decide)
    · rename_i h2
      exact ⟨Classical.not_not.1 h1, hoL_zero h, by omega, h⟩
structure PgOk (o : List (RD × RD)) (hs : List (List (RD × RD))) (n : Nat) : Prop where
  lo : o.length ≤ 100000
  lh : hs.length ≤ 100000
  ob : ∀ p ∈ o, BP n (vP p) ∧ SzP p
  hb : ∀ h ∈ hs, ∀ p ∈ h, BP n (vP p) ∧ SzP p
  hl : ∀ h ∈ hs, h.length ≤ 100000
theorem pcheck_o {o : List (RD × RD)} {hs : List (List (RD × RD))} {n : Nat} (h : PgOk o hs n) (hn : n < 1000000) : Fun Tryz.prog 48 [pgR o hs] [i64 (pgE o hs)] := pcheck_c o hs hn h.lo h.lh h.ob h.hb h.hl
theorem cover_x {o : List (RD × RD)} {hs : List (List (RD × RD))} {n : Nat} (h : PgOk o hs n) (hn : n < 1000000) (a b c d : RD) (ha : Sz a) (hb : Sz b) (hc : Sz c) (hd : Sz d) (hv : vbB a b c d = false) (m k : Int) :
    Fun Tryz.prog 13 [pgR o hs, quR a b c d, i64 m, i64 k] [.l [], i64 1] := by
  refine fun_of_go (fun t => t == 10) mixed tOk Tryz.func13 rfl rfl ?_
  conv => whnf
  refine callv_data (pcheck_o h hn) ?_
  conv => whnf
  refine callv_data (gchkx a b c d ha hb hc hd hv m k _) ?_
  conv => whnf
  refine safe_intro (by kernel_rfl) ?_
  conv => whnf
  refine cond_bt (by decide) ?_
  conv => whnf
  refine ⟨?_, ?_, trivial⟩
  · conv => whnf
  · conv => whnf
theorem cover_p {o : List (RD × RD)} {hs : List (List (RD × RD))} {n : Nat} (h : PgOk o hs n) (hn : n < 1000000) {x0 y0 x1 y1 : Rat} (q0 : Q x0) (q1 : Q y0) (q2 : Q x1) (q3 : Q y1) (hx : x0 < x1) (hy : y0 < y1) (hp : pgE o hs ≠ 0) (m k : Int) :
    Fun Tryz.prog 13 [pgR o hs, quD x0 y0 x1 y1, i64 m, i64 k] [.l [], i64 1] := by
  refine fun_of_go (fun t => t == 10) mixed tOk Tryz.func13 rfl rfl ?_
  conv => whnf
  refine callv_data (pcheck_o h hn) ?_
  conv => whnf
  refine callv_eq (gchk0 q0 q1 q2 q3 hx hy (c := m) (r := k)) (by rw [show bz (pgE o hs == 0) = false by rw [bz_eq]; simpa using hp]; rfl) ?_
  conv => whnf
  refine safe_intro (by kernel_rfl) ?_
  conv => whnf
  refine cond_bt (by decide) ?_
  conv => whnf
  refine ⟨?_, ?_, trivial⟩
  · conv => whnf
  · conv => whnf
theorem cover_s {o : List (RD × RD)} {hs : List (List (RD × RD))} {n : Nat} (h : PgOk o hs n) (hn : n < 1000000) {x0 y0 x1 y1 : Rat} (q0 : Q x0) (q1 : Q y0) (q2 : Q x1) (q3 : Q y1) (hx : x0 < x1) (hy : y0 < y1) (hp : pgE o hs = 0) (m k : Int) (hs' : gcE m k = 2) :
    Fun Tryz.prog 13 [pgR o hs, quD x0 y0 x1 y1, i64 m, i64 k] [.l [], i64 2] := by
  have hg := gchk1 q0 q1 q2 q3 hx hy (c := m) (r := k)
  rw [hs'] at hg
  refine fun_of_go (fun t => t == 10) mixed tOk Tryz.func13 rfl rfl ?_
  conv => whnf
  refine callv_data (pcheck_o h hn) ?_
  conv => whnf
  refine callv_eq hg (by rw [show bz (pgE o hs == 0) = true by rw [bz_eq]; simpa using hp]; rfl) ?_
  conv => whnf
  refine safe_intro (by kernel_rfl) ?_
  conv => whnf
  refine cond_bt (by decide) ?_
  conv => whnf
  refine ⟨?_, ?_, trivial⟩
  · conv => whnf
  · conv => whnf
def cvP (x0 y0 x1 y1 : Rat) (c r : Int) (o : List P2) (hs : List (List P2)) (j : Nat) : Rat :=
  cvQ (pxQ x0 y0 x1 y1 c r j).1.1 (pxQ x0 y0 x1 y1 c r j).1.2 (pxQ x0 y0 x1 y1 c r j).2.1 (pxQ x0 y0 x1 y1 c r j).2.2 o hs
theorem cover_c {o : List (RD × RD)} {hs : List (List (RD × RD))} {n : Nat} (h : PgOk o hs n) (hn : n ≤ 100) {x0 y0 x1 y1 : Rat} (h0 : Bd n x0) (h1 : Bd n y0) (h2 : Bd n x1) (h3 : Bd n y1) (hx : x0 < x1) (hy : y0 < y1) (hp : pgE o hs = 0) {c r : Int} (hcr : 1 ≤ c ∧ c ≤ 128) (hrr : 1 ≤ r ∧ r ≤ 128) :
    Fun Tryz.prog 13 [pgR o hs, quD x0 y0 x1 y1, i64 c, i64 r] [.l (qL ((List.range (c.toNat * r.toNat)).map (cvP x0 y0 x1 y1 c r (o.map vP) (hs.map (List.map vP))))), i64 0] := by
  obtain ⟨z1, z2, z3, z4⟩ := pgE_zero hp
  obtain ⟨o1, o2, o3, o4⟩ := rgR_zero z1
  have hg := gchk1 (.mk h0 (by omega)) (.mk h1 (by omega)) (.mk h2 (by omega)) (.mk h3 (by omega)) hx hy (c := c) (r := r)
  rw [show gcE c r = 0 by unfold gcE; rw [if_neg (by omega)]] at hg
  have hck := pcheck_o h (show n < 1000000 by omega)
  rw [hp] at hck
  have ob : ∀ p ∈ o.map vP, BP n p := fun p hp => by obtain ⟨q, hq, rfl⟩ := List.mem_map.1 hp; exact (h.ob q hq).1
  have hb : ∀ x ∈ hs.map (List.map vP), (∀ p ∈ x, BP n p) ∧ x.length ≤ 100 := fun x hx => by
    obtain ⟨q, hq, rfl⟩ := List.mem_map.1 hx
    refine ⟨fun p hp => by obtain ⟨r, hr, rfl⟩ := List.mem_map.1 hp; exact (h.hb q hq r hr).1, ?_⟩
    have := rgR_zero (z2 q hq)
    rw [List.length_map]; omega
  have ol : (o.map vP).length = o.length := List.length_map ..
  have hhl : (hs.map (List.map vP)).length = hs.length := List.length_map ..
  have epg : pgR o hs = .a [.l (pL (o.map vP)), .l (hQ (hs.map (List.map vP)))] := by
    unfold pgR; rw [rL_can o1, hR_can (fun l hl => (rgR_zero (z2 l hl)).1)]
  rw [epg] at hck ⊢
  generalize o.map vP = o' at *
  generalize hs.map (List.map vP) = hs' at *
  have hea := each_q h0 h1 h2 h3 (by omega) hcr hrr 57 [.p 0 [.l (pL o'), .l (hQ hs')]] (cvP x0 y0 x1 y1 c r o' hs') (fun j hj => by
    have d1 := Int.tmod_nonneg (b := c) (a := (j : Int)) (by omega)
    have d2 := Int.tmod_lt_of_pos (j : Int) (b := c) (by omega)
    have d3 : 0 ≤ Int.tdiv (j : Int) c := Int.tdiv_nonneg (by omega) (by omega)
    have d4 : Int.tdiv (j : Int) c < r := by
      rw [Int.tdiv_eq_ediv_of_nonneg (by omega)]
      exact Int.ediv_lt_of_lt_mul (by omega) (by rw [Int.mul_comm]; exact hj)
    exact cover1_c (pxX_bd (c := c) h0 h2 (by omega) (by omega)) (pxY_bd (c := r) h1 h3 (by omega) (by omega)) (pxX_bd (c := c) h0 h2 (by omega) (by omega)) (pxY_bd (c := r) h1 h3 (by omega) (by omega)) ob hb hn (by omega) (by omega) (by omega))
  refine fun_of_go (fun t => t == 10) mixed tOk Tryz.func13 rfl rfl ?_
  conv => whnf
  refine callv_data hck ?_
  conv => whnf
  refine callv_eq hg (by simp only [bz_eq]; rfl) ?_
  conv => whnf
  refine safe_intro (by kernel_rfl) ?_
  conv => whnf
  refine cond_bf (by decide) ?_
  conv => whnf
  refine call_data rfl rfl hea ?_
  conv => whnf
  refine ⟨?_, ?_, trivial⟩
  · conv => whnf
  · conv => whnf
end Go.Nv
end
section
namespace Go.Nv
open Go.Proofs Nw
set_option maxRecDepth 100000
set_option linter.unusedVariables false
set_option linter.unusedSimpArgs false
theorem orI_zero {a b c : P2} : orI a b c = 0 ↔ orQ a b c = 0 := by unfold orI; exact sgnI_zero
theorem cmpI_le {p q : Rat} : cmpI p q ≤ 0 ↔ p ≤ q := by
  rw [cmpI_eq]; unfold cmpQ
  by_cases h1 : p < q
  · rw [if_pos h1]; constructor <;> intro h
    · grind
    · decide
  · rw [if_neg h1]
    by_cases h2 : q < p
    · rw [if_pos h2]; constructor <;> intro h
      · exact absurd h (by decide)
      · grind
    · rw [if_neg h2]; constructor <;> intro h
      · grind
      · decide
def leP (p q : P2) : Prop := p.1 < q.1 ∨ (p.1 = q.1 ∧ p.2 ≤ q.2)
theorem cmP_le {p q : P2} : cmP p q ≤ 0 ↔ leP p q := by
  unfold cmP leP
  by_cases h : cmpI p.1 q.1 = 0
  · rw [if_pos h, cmpI_le]
    have := cmpI_zero.1 h
    constructor
    · intro h1; exact .inr ⟨this, h1⟩
    · rintro (h1 | ⟨_, h1⟩)
      · grind
      · exact h1
  · rw [if_neg h]
    have hne : p.1 ≠ q.1 := fun e => h (cmpI_zero.2 e)
    constructor
    · intro h1; left; exact cmpI_neg.1 (by omega)
    · rintro (h1 | ⟨h1, _⟩)
      · have := cmpI_neg.2 h1; omega
      · exact absurd h1 hne
theorem leP_trans {p q r : P2} (h : leP p q) (k : leP q r) : leP p r := by
  unfold leP at *; grind
theorem leP_total (p q : P2) : leP p q ∨ leP q p := by
  unfold leP
  by_cases h1 : p.1 < q.1
  · exact .inl (.inl h1)
  · by_cases h2 : q.1 < p.1
    · exact .inr (.inl h2)
    · by_cases h3 : p.2 ≤ q.2
      · exact .inl (.inr ⟨by grind, h3⟩)
      · exact .inr (.inr ⟨by grind, by grind⟩)
theorem leP_not {p q : P2} (h : ¬ leP p q) : leP q p := (leP_total p q).resolve_left h
theorem leP_lin {p q : P2} (h : leP p q) {t : Rat} (t0 : 0 ≤ t) (t1 : t ≤ 1) : leP p (lin p q t) ∧ leP (lin p q t) q := by
  unfold leP at *
  simp only [lin]
  rcases h with h | ⟨h1, h2⟩
  · by_cases z : t = 0
    · subst z
      exact ⟨.inr ⟨by grind, by grind⟩, .inl (by grind)⟩
    · by_cases o : t = 1
      · subst o
        exact ⟨.inl (by grind), .inr ⟨by grind, by grind⟩⟩
      · have m1 := Rat.mul_pos (show 0 < t by grind) (show 0 < q.1 - p.1 by grind)
        have m2 := Rat.mul_pos (show 0 < 1 - t by grind) (show 0 < q.1 - p.1 by grind)
        exact ⟨.inl (by grind), .inl (by grind)⟩
  · have m1 := Rat.mul_nonneg t0 (show 0 ≤ q.2 - p.2 by grind)
    have m2 := Rat.mul_nonneg (show 0 ≤ 1 - t by grind) (show 0 ≤ q.2 - p.2 by grind)
    exact ⟨.inr ⟨by grind, by grind⟩, .inr ⟨by grind, by grind⟩⟩
theorem ordP_lin (a b : P2) {t : Rat} (t0 : 0 ≤ t) (t1 : t ≤ 1) : leP (ordP a b).1 (lin a b t) ∧ leP (lin a b t) (ordP a b).2 := by
  unfold ordP
  by_cases h : 0 < cmP a b
  · rw [if_pos h]
    have hn : ¬ leP a b := fun h1 => by have := cmP_le.2 h1; omega
    have := leP_lin (leP_not hn) (t := 1 - t) (by grind) (by grind)
    rw [lin_swap] at this
    have e : (1 : Rat) - (1 - t) = t := by grind
    rw [e] at this; exact this
  · rw [if_neg h]
    have h' : cmP a b ≤ 0 := by omega
    exact leP_lin (cmP_le.1 h') t0 t1
theorem gtrP_le {p q r : P2} (h : leP p r) (k : leP q r) : leP (gtrP p q) r := by unfold gtrP; split <;> assumption
theorem lsrP_le {p q r : P2} (h : leP r p) (k : leP r q) : leP r (lsrP p q) := by unfold lsrP; split <;> assumption
theorem unB_iff {t : Rat} : unB t = true ↔ 0 ≤ t ∧ t ≤ 1 := by
  unfold unB
  rw [Bool.and_eq_true, decide_eq_true_eq, decide_eq_true_eq, cmpI_le]
  have : 0 ≤ sgnI t ↔ 0 ≤ t := by
    rw [sgnI_eq]; unfold sgnQ
    by_cases h1 : t < 0
    · rw [if_pos h1]; constructor <;> intro h
      · exact absurd h (by decide)
      · grind
    · rw [if_neg h1]
      constructor <;> intro h
      · grind
      · split <;> decide
  rw [this]
theorem mtQ_none {a b c d : P2} (h : mtQ a b c d = none) : Disj a b c d := by
  intro s t s0 s1 t0 t1 heq
  have e1 := congrArg Prod.fst heq
  have e2 := congrArg Prod.snd heq
  simp only [lin] at e1 e2
  unfold mtQ at h
  by_cases hD : crQ (su b a) (su d c) = 0
  · rw [if_pos hD] at h
    by_cases hx : crQ (su b a) (su c a) = 0
    · rw [if_pos hx] at h
      have k1 := ordP_lin a b s0 s1
      have k2 := ordP_lin c d t0 t1
      rw [← heq] at k2
      have : leP (gtrP (ordP a b).1 (ordP c d).1) (lsrP (ordP a b).2 (ordP c d).2) := leP_trans (gtrP_le k1.1 k2.1) (lsrP_le k1.2 k2.2)
      rw [if_neg (by have := cmP_le.2 this; omega)] at h
      exact absurd h (by simp)
    · apply hx
      simp only [crQ, su] at hD ⊢
      have f1 : c.1 - a.1 = (b.1 - a.1) * s - (d.1 - c.1) * t := by grind
      have f2 : c.2 - a.2 = (b.2 - a.2) * s - (d.2 - c.2) * t := by grind
      rw [f1, f2]
      have : (b.1 - a.1) * ((b.2 - a.2) * s - (d.2 - c.2) * t) - (b.2 - a.2) * ((b.1 - a.1) * s - (d.1 - c.1) * t) = -t * ((b.1 - a.1) * (d.2 - c.2) - (b.2 - a.2) * (d.1 - c.1)) := by grind
      rw [this, hD]; grind
  · rw [if_neg hD] at h
    have es : crQ (su c a) (su d c) / crQ (su b a) (su d c) = s := by
      have : crQ (su c a) (su d c) = s * crQ (su b a) (su d c) := by
        simp only [crQ, su]
        have f1 : c.1 - a.1 = (b.1 - a.1) * s - (d.1 - c.1) * t := by grind
        have f2 : c.2 - a.2 = (b.2 - a.2) * s - (d.2 - c.2) * t := by grind
        rw [f1, f2]; grind
      rw [this]; grind
    have et : crQ (su c a) (su b a) / crQ (su b a) (su d c) = t := by
      have : crQ (su c a) (su b a) = t * crQ (su b a) (su d c) := by
        simp only [crQ, su]
        have f1 : c.1 - a.1 = (b.1 - a.1) * s - (d.1 - c.1) * t := by grind
        have f2 : c.2 - a.2 = (b.2 - a.2) * s - (d.2 - c.2) * t := by grind
        rw [f1, f2]; grind
      rw [this]; grind
    rw [es, et, if_pos (by rw [unB_iff.2 ⟨s0, s1⟩, unB_iff.2 ⟨t0, t1⟩]; rfl)] at h
    exact absurd h (by simp)
theorem mtB_false {a b c d : P2} (h : mtB a b c d = false) (hab : a ≠ b) (hcd : c ≠ d) : Disj a b c d := by
  refine mtQ_none ?_
  unfold mtB at h
  rw [decide_eq_false hab, decide_eq_false hcd] at h
  simpa using h
theorem Disj.swap {a b u v : P2} (h : Disj a b u v) : Disj u v a b := Nw.Disj.symm h
theorem rot_ix {l l' : List P2} (h : Rot l l') (hl : 0 < l.length) : ∃ j, ∀ k, ix l' k = ix l (j + k) := by
  obtain ⟨x, y, rfl, rfl⟩ := h
  refine ⟨x.length, fun k => ?_⟩
  unfold ix
  have hlen : (y ++ x).length = (x ++ y).length := by simp; omega
  rw [hlen]
  have hn : (x ++ y).length = x.length + y.length := List.length_append
  obtain ⟨n, hN⟩ : ∃ n, n = (x ++ y).length := ⟨_, rfl⟩
  rw [← hN] at hl ⊢
  have hk := Nat.mod_lt k hl
  have e : (x.length + k) % n = if k % n < y.length then x.length + k % n else k % n - y.length := by
    rw [← Nat.add_mod_mod]
    split
    · exact Nat.mod_eq_of_lt (by omega)
    · rw [Nat.mod_eq_sub_mod (by omega), Nat.mod_eq_of_lt (by omega)]; omega
  rw [e]
  rw [List.getD_eq_getElem?_getD, List.getD_eq_getElem?_getD]
  by_cases hc : k % n < y.length
  · rw [if_pos hc, List.getElem?_append_left hc, List.getElem?_append_right (by omega)]
    congr 2; omega
  · rw [if_neg hc, List.getElem?_append_right (by omega), List.getElem?_append_left (by omega)]
theorem flat_none {l : List P2} (h : ¬ 0 ≤ fstI (flB l) (List.range l.length)) {i : Nat} (hi : i < l.length) : flB l i = false := by
  unfold fstI at h
  cases hf : List.findIdx? (flB l) (List.range l.length) with
  | some k => rw [hf] at h; exact absurd (Int.natCast_nonneg k) h
  | none =>
    rw [List.findIdx?_eq_none_iff] at hf
    exact hf i (by simpa using hi)
structure RgOk (l : List P2) : Prop where
  len : 3 ≤ l.length ∧ l.length ≤ 64
  fl : ∀ i, i < l.length → flB l i = false
  cr : crB l = false
  pos : 0 < tot crQ l
  fst : kf l l.length = 0
theorem tot_div {l : List P2} : (0 < sgnI (tot crQ l / 2)) ↔ 0 < tot crQ l := by
  rw [sgnI_eq]; unfold sgnQ
  constructor
  · intro h
    by_cases h1 : tot crQ l / 2 < 0
    · rw [if_pos h1] at h; exact absurd h (by decide)
    · rw [if_neg h1] at h
      by_cases h2 : 0 < tot crQ l / 2
      · grind
      · rw [if_neg h2] at h; exact absurd h (by decide)
  · intro h
    rw [if_neg (by grind), if_pos (by grind)]; decide
theorem rgE_zero {l : List P2} : rgE l = 0 ↔ RgOk l := by
  unfold rgE
  constructor
  · intro h
    split at h
    · exact absurd h (by decide)
    · rename_i h1
      split at h
      · exact absurd h (by decide)
      · rename_i h2
        split at h
        · exact absurd h (by decide)
        · rename_i h3
          split at h
          · exact absurd h (by decide)
          · rename_i h4
            refine ⟨by omega, fun i hi => flat_none h2 hi, by simpa using h3, tot_div.1 (by omega), by omega⟩
  · intro h
    have h2 : ¬ 0 ≤ fstI (flB l) (List.range l.length) := by
      unfold fstI
      rw [List.findIdx?_eq_none_iff.2 (fun i hi => h.fl i (by simpa using hi))]
      decide
    have := tot_div.2 h.pos
    have := h.fst
    have := h.len
    rw [if_neg (by omega), if_neg h2, if_neg (by rw [h.cr]; decide), if_neg (by omega)]
theorem ix_add_mod {l : List P2} (j k : Nat) : ix l (j % l.length + k) = ix l (j + k) := by
  unfold ix; rw [Nat.mod_add_mod]
theorem ix_per {l : List P2} (j : Nat) : ix l (j + l.length) = ix l j := by
  unfold ix; rw [Nat.add_mod_right]
theorem prs_ix : ∀ (m : List P2) (c : P2) (e : P2 × P2), e ∈ prs c m → ∃ i, i < m.length ∧ (c :: m)[i]? = some e.1 ∧ (c :: m)[i + 1]? = some e.2
  | [], c, e, h => by simp [prs] at h
  | b :: m, c, e, h => by
    simp only [prs] at h
    rcases List.mem_cons.1 h with rfl | h
    · exact ⟨0, by simp, rfl, rfl⟩
    · obtain ⟨i, h1, h2, h3⟩ := prs_ix m b e h
      exact ⟨i + 1, by simp; omega, h2, h3⟩
theorem ix_some {l : List P2} {i : Nat} {p : P2} (h : l[i]? = some p) : ix l i = p := by
  have hi := (List.getElem?_eq_some_iff.1 h).1
  rw [ix_lt hi]; exact (List.getElem?_eq_some_iff.1 h).2
theorem RgOk.cor {l : List P2} (h : RgOk l) (j : Nat) : orQ (ix l j) (ix l (j + 1)) (ix l (j + 2)) ≠ 0 := by
  have h0 : 0 < l.length := by have := h.len; omega
  have hk := h.fl ((j + 1) % l.length) (Nat.mod_lt _ h0)
  unfold flB at hk
  rw [decide_eq_false_iff_not, orI_zero] at hk
  have e1 : ix l ((j + 1) % l.length + l.length - 1) = ix l j := by
    have : (j + 1) % l.length + l.length - 1 = (j + 1) % l.length + (l.length - 1) := by omega
    rw [this, ix_add_mod, show j + 1 + (l.length - 1) = j + l.length by omega, ix_per]
  have e2 : ix l ((j + 1) % l.length) = ix l (j + 1) := by have := ix_add_mod (l := l) (j + 1) 0; simpa using this
  have e3 : ix l ((j + 1) % l.length + 1) = ix l (j + 2) := ix_add_mod (l := l) (j + 1) 1
  rw [e1, e2, e3] at hk
  exact hk
theorem RgOk.ne {l : List P2} (h : RgOk l) (j : Nat) : ix l j ≠ ix l (j + 1) := (orQ_ne (h.cor j)).1
theorem RgOk.apart {l : List P2} (h : RgOk l) {i k : Nat} (hi : i < l.length) (hk : k < l.length) (h2 : i + 2 ≤ k) (h3 : ¬ (i = 0 ∧ k = l.length - 1)) : Disj (ix l i) (ix l (i + 1)) (ix l k) (ix l (k + 1)) := by
  have hx : xB l i k = false := by
    cases hb : xB l i k with
    | false => rfl
    | true => have := crB_t hi hk hb; rw [h.cr] at this; exact absurd this (by decide)
  refine mtB_false ?_ (h.ne i) (h.ne k)
  unfold xB at hx
  rw [decide_eq_true h2] at hx
  have : (decide (i = 0) && decide (k = l.length - 1)) = false := by
    by_cases a : i = 0
    · rw [decide_eq_true a, decide_eq_false (fun b => h3 ⟨a, b⟩)]; rfl
    · rw [decide_eq_false a]; rfl
  rw [this] at hx
  simpa [ed] using hx
theorem RgOk.simp {l : List P2} (h : RgOk l) : Simp l := by
  have hl := h.len
  have h0 : 0 < l.length := by omega
  refine ⟨hl.1, fun a b c r hr => ?_, fun a b c r hr e he => ?_⟩
  · obtain ⟨j, hj⟩ := rot_ix hr h0
    have e0 := hj 0
    have e1 := hj 1
    have e2 := hj 2
    have hlen := hr.len
    rw [ix_some (p := a) rfl] at e0
    rw [ix_some (p := b) rfl] at e1
    rw [ix_some (p := c) rfl] at e2
    rw [e0, e1, e2]
    exact h.cor j
  · obtain ⟨j, hj⟩ := rot_ix hr h0
    have hlen := hr.len
    obtain ⟨i, i1, i2, i3⟩ := prs_ix _ _ _ he
    have e0 := hj 0
    have e1 := hj 1
    rw [ix_some (p := a) rfl] at e0
    rw [ix_some (p := b) rfl] at e1
    have e2 := hj (i + 2)
    have e3 := hj (i + 3)
    rw [ix_some (l := a :: b :: c :: r) (p := e.1) i2] at e2
    rw [ix_some (l := a :: b :: c :: r) (p := e.2) i3] at e3
    rw [e0, e1, e2, e3]
    simp only [List.length_cons] at hlen
    -- the two places modulo the length
    obtain ⟨n, hn⟩ : ∃ n, n = l.length := ⟨_, rfl⟩
    have hA := Nat.mod_lt j h0
    have hB := Nat.mod_lt (j + (i + 2)) h0
    have r0 : ix l (j + 0) = ix l (j % l.length) := by have := ix_add_mod (l := l) j 0; simpa using this.symm
    have r1 : ix l (j + 1) = ix l (j % l.length + 1) := (ix_add_mod (l := l) j 1).symm
    have r2 : ix l (j + (i + 2)) = ix l ((j + (i + 2)) % l.length) := by have := ix_add_mod (l := l) (j + (i + 2)) 0; simpa using this.symm
    have r3 : ix l (j + (i + 3)) = ix l ((j + (i + 2)) % l.length + 1) := (ix_add_mod (l := l) (j + (i + 2)) 1).symm
    rw [r0, r1, r2, r3]
    have hm : (j + (i + 2)) % l.length = if j % l.length + (i + 2) < l.length then j % l.length + (i + 2) else j % l.length + (i + 2) - l.length := by
      rw [← Nat.mod_add_mod]
      split
      · exact Nat.mod_eq_of_lt (by assumption)
      · rw [Nat.mod_eq_sub_mod (by omega), Nat.mod_eq_of_lt (by omega)]
    by_cases hc : j % l.length + (i + 2) < l.length
    · rw [if_pos hc] at hm
      exact h.apart hA hB (by omega) (by omega)
    · rw [if_neg hc] at hm
      exact Disj.swap (h.apart hB hA (by omega) (by omega))
theorem RgOk.area {l : List P2} (h : RgOk l) : 0 < tot ar l := h.pos
end Go.Nv
end
