import Derived.Test.YtdjbkccoofcnjaaGreatNvD5
import Derived.Test.YtdjbkccoofcnjaaGreatNvD7
import Derived.Test.YtdjbkccoofcnjaaGreatNvD6
set_option linter.all false
set_option linter.unusedVariables false
set_option linter.unusedSimpArgs false
section
namespace Go.Nv
open Go.Proofs Nw
set_option maxRecDepth 100000
set_option linter.unusedVariables false
set_option linter.unusedSimpArgs false
theorem hcmp_c {a b : List P2} {n : Nat} (ha : ∀ p ∈ a, BP n p) (hb : ∀ p ∈ b, BP n p) (h0 : 0 < a.length) (h1 : 0 < b.length) (hn : n < 1000000) : Fun Tryz.prog 282 [.l (pL a), .l (pL b)] [i64 (cmP (ix a 0) (ix b 0))] := by
  have q1 := (ha _ (ix_mem h0 (k := 0))).q (by omega)
  have q2 := (hb _ (ix_mem h1 (k := 0))).q (by omega)
  refine fun_of_go (fun t => false) mixed tOk Tryz.func282 rfl rfl ?_
  conv => whnf
  refine idx_intro (pD (ix a 0)) (ix_at (i := 0) h0) (by omega) (pL_uni a) ?_
  conv => whnf
  refine idx_intro (pD (ix b 0)) (ix_at (i := 0) h1) (by omega) (pL_uni b) ?_
  conv => whnf
  refine callv_data (vcmp_c q1.1 q1.2 q2.1 q2.2) ?_
  conv => whnf
  refine safe_intro (by kernel_rfl) ?_
  conv => whnf
  refine ⟨?_, trivial⟩
  conv => whnf
def Ord (hs : List (List P2)) : Prop := ∀ i, i + 1 < hs.length → cmP (ix (hs.getD i []) 0) (ix (hs.getD (i + 1) []) 0) < 0
theorem cmP_flip {p q : P2} (h : cmP p q < 0) : 0 ≤ cmP q p := by
  refine Classical.byContradiction fun hn => ?_
  have h1 := cmP_le.1 (show cmP p q ≤ 0 by omega)
  have h2 := cmP_le.1 (show cmP q p ≤ 0 by omega)
  have : p = q := by
    unfold leP at h1 h2
    exact Prod.ext (by grind) (by grind)
  have := cmP_zero.2 this
  omega
theorem ins_c {hs : List (List P2)} {n : Nat} (hh : ∀ h ∈ hs, (∀ p ∈ h, BP n p) ∧ 0 < h.length) (ho : Ord hs) (hl : hs.length ≤ 8) (hn : n < 1000000) : Fun Tryz.prog 349 [.l (hQ hs), i64 0, i64 hs.length, .f 282 []] [] := by
  have hll : (hQ hs).length = hs.length := by simp
  refine fun_of_go (fun t => false) mixed tOk Tryz.func349 rfl rfl ?_
  conv => whnf
  refine sd_d (by omega) ?_
  conv => whnf
  refine loop_intro (fun t => false) (fun i : Nat => ⟨fr 53 [(0, .d (.l (hQ hs))), (1, .d (i64 0)), (2, .d (i64 hs.length)), (3, .d (.f 282 [])), (8, .d (i64 (i + 1)))], []⟩) (fun i => i ≤ hs.length) (fun i => hs.length + 1 - i) 0 mixed tOk (by omega) ?_ ?_
  · refine weak_r ?_ ?_ <;> repeat' (first | exact trivial | exact rfl | refine And.intro ?_ ?_)
  · intro i hi
    conv => whnf
    refine cond_d (fun hlt => ?_) (fun hge => ?_)
    · have h1 : i + 1 < hs.length := by omega
      have h0 : i < hs.length := by omega
      have m0 := hh _ (List.getElem_mem h0)
      have m1 := hh _ (List.getElem_mem h1)
      have hc := cmP_flip (ho i h1)
      rw [List.getD_eq_getElem?_getD, List.getD_eq_getElem?_getD, List.getElem?_eq_getElem h0, List.getElem?_eq_getElem h1] at hc
      simp only [Option.getD_some] at hc
      have e1 : ((i : Int) + 1) = ((i + 1 : Nat) : Int) := rfl
      conv => whnf
      refine unroll 2 (fun t => false) mixed tOk ?_
      conv => whnf
      refine cond_dt (by omega) ?_
      conv => whnf
      refine idx_intro (.l (pL hs[i + 1])) (by rw [e1]; exact hQ_get h1) (by omega) (hQ_uni _) ?_
      conv => whnf
      refine sd_d (by omega) ?_
      conv => whnf
      have e3 : ((i : Int) + 1 - 1) = ((i : Nat) : Int) := by omega
      refine idx_intro (.l (pL hs[i])) (by rw [e3]; exact hQ_get h0) (by omega) (hQ_uni _) ?_
      conv => whnf
      refine callv_data (hcmp_c m1.1 m0.1 m1.2 m0.2 hn) ?_
      conv => whnf
      refine safe_intro (by kernel_rfl) ?_
      conv => whnf
      refine cond_df (by omega) ?_
      conv => whnf
      refine sd_d (by omega) ?_
      conv => whnf
      refine ⟨i + 1, by omega, by omega, ?_⟩
      rw [Int.natCast_succ]
      refine weak_r ?_ ?_ <;> repeat' (first | exact trivial | exact rfl | refine And.intro ?_ ?_)
    · conv => whnf
      exact trivial
theorem stable_c {hs : List (List P2)} {n : Nat} (hh : ∀ h ∈ hs, (∀ p ∈ h, BP n p) ∧ 0 < h.length) (ho : Ord hs) (hl : hs.length ≤ 8) (hn : n < 1000000) : Fun Tryz.prog 332 [.l (hQ hs), i64 hs.length, .f 282 []] [] := by
  have hi := ins_c hh ho hl hn
  refine fun_of_go (fun t => false) mixed tOk Tryz.func332 rfl rfl ?_
  conv => whnf
  refine unroll 1 (fun t => false) mixed tOk ?_
  conv => whnf
  refine cond_df (by omega) ?_
  conv => whnf
  refine call_data rfl rfl hi ?_
  conv => whnf
  refine unroll 1 (fun t => false) mixed tOk ?_
  conv => whnf
  refine cond_df (by omega) ?_
  conv => whnf
  exact trivial
theorem sortst_c {hs : List (List P2)} {n : Nat} (hh : ∀ h ∈ hs, (∀ p ∈ h, BP n p) ∧ 0 < h.length) (ho : Ord hs) (hl : hs.length ≤ 8) (hn : n < 1000000) : Fun Tryz.prog 281 [.l (hQ hs), .f 282 []] [] := by
  have hi := stable_c hh ho hl hn
  have hll : (hQ hs).length = hs.length := by simp
  rw [← hll] at hi
  refine fun_of_go (fun t => false) mixed tOk Tryz.func281 rfl rfl ?_
  conv => whnf
  refine call_data rfl rfl hi ?_
  conv => whnf
  exact trivial
noncomputable def caSt (o : List P2) (hs : List (List P2)) (i : Nat) : St :=
  ⟨fr 25 [(0, .own 4 0), (1, .d (.p 0 [.l (pL o), .l (hQ hs)])), (11, .d (.l (hQ hs))), (12, .d (i64 (hQ hs).length)), (13, .d (i64 i))],
   [.box 25 [.d (.v (.slice none 0 0)), .d (.v (.slice none 0 0))], .box 35 [.d (i64 0)], .box 25 [.d (.l (pL o)), .own 3 0], .row 0 22 1 24 (hQ (hs.take i)),
    .loop .ready none #[12, 13] (rfO Tryz.f204.body).1 (rfO Tryz.f204.body).2 (fr 43 [(2, .ptr 0 0 0), (3, .ptr 1 0 0), (4, .ptr 2 0 0)])]⟩
theorem pcanonical_c {o : List P2} {hs : List (List P2)} {n : Nat} (hro : RgOk o) (hrh : ∀ h ∈ hs, RgOk h) (ho : ∀ p ∈ o, BP n p) (hh : ∀ h ∈ hs, ∀ p ∈ h, BP n p) (hor : Ord hs) (hl : hs.length ≤ 8) (hn : n < 1000000)
    (hck : Fun Tryz.prog 48 [.a [.l (pL o), .l (hQ hs)]] [i64 0]) : Fun Tryz.prog 204 [.a [.l (pL o), .l (hQ hs)]] [.a [.l (pL o), .l (hQ hs)], i64 0] := by
  have hll : (hQ hs).length = hs.length := by simp
  refine fun_of_go (fun t => t == 2 || t == 3 || t == 4 || t == 5 || t == 6 || t == 7 || t == 8) mixed tOk Tryz.func204 rfl rfl ?_
  conv => whnf
  refine call_data rfl rfl (rings_c o hs) ?_
  conv => whnf
  refine okc_own 2 1 22 1 24 ?_
  refine range_intro (g := 285) (cap := [.d (.p 0 [.l (pL o), .l (hQ hs)])]) (fun t => t == 2 || t == 3 || t == 4 || t == 5 || t == 6 || t == 7 || t == 8) mixed tOk rfl rfl rfl rfl rfl ?_
  conv => whnf
  refine call_yield (fun t => t == 2 || t == 3 || t == 4 || t == 5 || t == 6 || t == 7 || t == 8) mixed tOk rfl rfl rfl ?_
  conv => whnf
  refine call_data rfl rfl (rcanonical_c hro ho hn) ?_
  conv => whnf
  refine cond_bf (by decide) ?_
  conv => whnf
  refine cond_bt (by decide) ?_
  conv => whnf
  refine loop_introD (fun t => t == 2 || t == 3 || t == 4 || t == 5 || t == 6 || t == 7 || t == 8) (fun i : Nat => caSt o hs i) (fun i => i ≤ hs.length) (fun i => hs.length - i) 0 mixed tOk (by omega) ?_ ?_
  · refine weak_dead 5 rfl ?_
    refine weak_l ?_ ?_ <;> repeat' (first | exact trivial | exact rfl | refine And.intro ?_ ?_)
  · intro i hi
    conv => whnf
    refine cond_d (fun hlt => ?_) (fun hge => ?_)
    · have hlt' : i < hs.length := by omega
      have hst : hQ (hs.take (i + 1)) = hQ (hs.take i) ++ [.l (pL hs[i])] := by rw [List.take_succ_eq_append_getElem hlt']; exact List.map_append ..
      have hlk : (hQ (hs.take i)).length = i := by simp; omega
      conv => whnf
      refine idx_intro (.l (pL hs[i])) (hQ_get hlt') (by omega) (hQ_uni _) ?_
      conv => whnf
      refine sd_d (by omega) ?_
      conv => whnf
      refine call_yield (fun t => t == 2 || t == 3 || t == 4 || t == 5 || t == 6 || t == 7 || t == 8) mixed tOk rfl rfl rfl ?_
      conv => whnf
      refine call_data rfl rfl (rcanonical_c (hrh _ (List.getElem_mem hlt')) (hh _ (List.getElem_mem hlt')) hn) ?_
      conv => whnf
      refine cond_bf (by decide) ?_
      conv => whnf
      refine cond_bf (by rw [beq_eq_false_iff_ne]; omega) ?_
      conv => whnf
      refine sd_app (hQ_uni _) (by intro x hx; rcases List.mem_singleton.1 hx with rfl; rfl) (by simp only [maxLen, List.length_cons, List.length_nil]; omega) ?_
      conv => whnf
      refine sd_d (by omega) ?_
      conv => whnf
      refine ⟨i + 1, by omega, by omega, ?_⟩
      unfold caSt
      rw [hst, Int.natCast_succ]
      refine weak_dead 5 rfl ?_
      refine weak_l ?_ ?_ <;> repeat' (first | exact trivial | exact rfl | refine And.intro ?_ ?_)
    · have : i = hs.length := by omega
      subst this
      rw [show hs.take hs.length = hs from List.take_length]
      conv => whnf
      refine call_frz 3 (call_data rfl rfl (sortst_c (fun h hm => ⟨hh h hm, by have := (hrh h hm).len; omega⟩) hor hl hn) ?_)
      conv => whnf
      refine call_data rfl rfl hck ?_
      conv => whnf
      refine cond_bf (by decide) ?_
      conv => whnf
      refine ⟨?_, ?_, trivial⟩
      · conv => whnf
        exact ⟨rfl, rfl, trivial⟩
      · conv => whnf
theorem mv1_c {p v : P2} {n : Nat} (hp : BP n p) (hv : BP n v) (hn : n < 1000000) : Fun Tryz.prog 118 [pD p, .p 0 (pD v).cells] [pD (trP v p)] := by
  refine fun_of_go (fun t => t == 3) mixed tOk Tryz.func118 rfl rfl ?_
  conv => whnf
  refine call_data rfl rfl (vadd_c (.mk hp.1 (by omega)) (.mk hp.2 (by omega)) (.mk hv.1 (by omega)) (.mk hv.2 (by omega))) ?_
  conv => whnf
  refine ⟨?_, trivial⟩
  conv => whnf
  exact ⟨rfl, rfl, rfl, rfl, rfl, rfl, trivial⟩
theorem mring_c {l : List P2} {v : P2} {n : Nat} (hl : ∀ p ∈ l, BP n p) (hv : BP n v) (hlen : l.length ≤ 1000) (hn : n < 1000000) : Fun Tryz.prog 203 [.l (pL l), .p 0 [.f 118 [.p 0 (pD v).cells]]] [.l (pL (trL v l))] := by
  have hll : (pL l).length = l.length := by simp
  refine fun_of_go (fun t => t == 4 || t == 6) mixed tOk Tryz.func203 rfl rfl ?_
  conv => whnf
  refine loop_intro (fun t => t == 4 || t == 6) (fun i : Nat => ⟨fr 21 [(1, .d (.p 0 [.f 118 [.p 0 (pD v).cells]])), (4, .own 1 0), (7, .d (.l (pL l))), (8, .d (i64 (pL l).length)), (9, .d (i64 i))], [.dead, .row 0 29 6 80 (pL (trL v (l.take i)))]⟩) (fun i => i ≤ l.length) (fun i => l.length - i) 0 mixed tOk (by omega) ?_ ?_
  · refine weak_dead 0 rfl ?_
    refine weak_r ?_ ?_ <;> repeat' (first | exact trivial | exact rfl | refine And.intro ?_ ?_)
  · intro i hi
    conv => whnf
    refine cond_d (fun hlt => ?_) (fun hge => ?_)
    · have hlt' : i < l.length := by omega
      have bi := hl _ (List.getElem_mem hlt')
      have hst : pL (trL v (l.take (i + 1))) = pL (trL v (l.take i)) ++ [pD (trP v l[i])] := by rw [List.take_succ_eq_append_getElem hlt']; unfold trL; rw [List.map_append]; exact List.map_append ..
      have hlk : (pL (trL v (l.take i))).length = i := by simp [trL]; omega
      conv => whnf
      refine idx_intro (pD l[i]) (pL_get hlt') (by omega) (pL_uni l) ?_
      conv => whnf
      refine call_data rfl rfl (mv1_c bi hv hn) ?_
      conv => whnf
      refine sd_app (pL_uni _) (by intro x hx; rcases List.mem_singleton.1 hx with rfl; rfl) (by simp only [maxLen, List.length_cons, List.length_nil]; omega) ?_
      conv => whnf
      refine sd_d (by omega) ?_
      conv => whnf
      refine ⟨i + 1, by omega, by omega, ?_⟩
      rw [hst, Int.natCast_succ]
      refine weak_dead 2 rfl ?_
      refine weak_r ?_ ?_ <;> repeat' (first | exact trivial | exact rfl | refine And.intro ?_ ?_)
    · have : i = l.length := by omega
      subst this
      rw [show l.take l.length = l from List.take_length]
      conv => whnf
      refine ⟨?_, trivial⟩
      conv => whnf
def trH (v : P2) (hs : List (List P2)) : List (List P2) := hs.map (trL v)
theorem mapped_c {o : List P2} {hs : List (List P2)} {v : P2} {n : Nat} (hro : RgOk o) (hrh : ∀ h ∈ hs, RgOk h) (ho : ∀ p ∈ o, BP n p) (hh : ∀ h ∈ hs, ∀ p ∈ h, BP n p) (hv : BP n v) (hl : hs.length ≤ 8) (hn : n < 100000)
    (hck : Fun Tryz.prog 48 [.a [.l (pL o), .l (hQ hs)]] [i64 0]) (hcan : Fun Tryz.prog 204 [.a [.l (pL (trL v o)), .l (hQ (trH v hs))]] [.a [.l (pL (trL v o)), .l (hQ (trH v hs))], i64 0]) :
    Fun Tryz.prog 117 [.a [.l (pL o), .l (hQ hs)], .v (.bool true), .f 118 [.p 0 (pD v).cells]] [.a [.l (pL (trL v o)), .l (hQ (trH v hs))], i64 0] := by
  have hll : (hQ hs).length = hs.length := by simp
  refine fun_of_go (fun t => t == 6 || t == 9) mixed tOk Tryz.func117 rfl rfl ?_
  conv => whnf
  refine call_data rfl rfl hck ?_
  conv => whnf
  refine cond_bf (by decide) ?_
  conv => whnf
  refine call_data rfl rfl (mring_c ho hv (by have := hro.len; omega) (by omega)) ?_
  conv => whnf
  refine okc_own 1 1 22 1 24 ?_
  refine loop_intro (fun t => t == 6 || t == 9) (fun i : Nat => ⟨fr 46 [(6, .ptr 0 0 0), (8, .d (.f 203 [.p 0 [.f 118 [.p 0 (pD v).cells]]])), (9, .ptr 1 0 0), (27, .d (.l (hQ hs))), (28, .d (i64 (hQ hs).length)), (29, .d (i64 i))],
    [.box 25 [.d (.v (.slice none 0 0)), .d (.v (.slice none 0 0))], .box 25 [.d (.l (pL (trL v o))), .own 2 0], .row 0 22 1 24 (hQ (trH v (hs.take i)))]⟩) (fun i => i ≤ hs.length) (fun i => hs.length - i) 0 mixed tOk (by omega) ?_ ?_
  · refine weak_r ?_ ?_ <;> repeat' (first | exact trivial | exact rfl | refine And.intro ?_ ?_)
  · intro i hi
    conv => whnf
    refine cond_d (fun hlt => ?_) (fun hge => ?_)
    · have hlt' : i < hs.length := by omega
      have hst : hQ (trH v (hs.take (i + 1))) = hQ (trH v (hs.take i)) ++ [.l (pL (trL v hs[i]))] := by rw [List.take_succ_eq_append_getElem hlt']; unfold trH; rw [List.map_append]; exact List.map_append ..
      have hlk : (hQ (trH v (hs.take i))).length = i := by simp [trH]; omega
      conv => whnf
      refine idx_intro (.l (pL hs[i])) (hQ_get hlt') (by omega) (hQ_uni _) ?_
      conv => whnf
      refine callv_data (mring_c (hh _ (List.getElem_mem hlt')) hv (by have := (hrh _ (List.getElem_mem hlt')).len; omega) (by omega)) ?_
      conv => whnf
      refine sd_app (hQ_uni _) (by intro x hx; rcases List.mem_singleton.1 hx with rfl; rfl) (by simp only [maxLen, List.length_cons, List.length_nil]; omega) ?_
      conv => whnf
      refine safe_intro (by kernel_rfl) ?_
      conv => whnf
      refine sd_d (by omega) ?_
      conv => whnf
      refine ⟨i + 1, by omega, by omega, ?_⟩
      rw [hst, Int.natCast_succ]
      refine weak_r ?_ ?_ <;> repeat' (first | exact trivial | exact rfl | refine And.intro ?_ ?_)
    · have : i = hs.length := by omega
      subst this
      rw [show hs.take hs.length = hs from List.take_length]
      conv => whnf
      refine call_frz 2 (call_data rfl rfl hcan ?_)
      conv => whnf
      refine ⟨?_, ?_, trivial⟩
      · conv => whnf
        exact ⟨rfl, rfl, trivial⟩
      · conv => whnf
theorem move_c {o : List P2} {hs : List (List P2)} {v : P2} {n : Nat} (hv : BP n v) (hn : n < 1000000) (hm : Fun Tryz.prog 117 [.a [.l (pL o), .l (hQ hs)], .v (.bool true), .f 118 [.p 0 (pD v).cells]] [.a [.l (pL (trL v o)), .l (hQ (trH v hs))], i64 0]) :
    Fun Tryz.prog 46 [.a [.l (pL o), .l (hQ hs)], pD v] [.a [.l (pL (trL v o)), .l (hQ (trH v hs))], i64 0] := by
  refine fun_of_go (fun t => t == 4) mixed tOk Tryz.func46 rfl rfl ?_
  conv => whnf
  refine callv_data (vcheck_q (.mk hv.1 (by omega)) (.mk hv.2 (by omega))) ?_
  conv => whnf
  refine callv_eq hm (by simp only [bz_eq]; rfl) ?_
  conv => whnf
  refine safe_intro (by kernel_rfl) ?_
  conv => whnf
  refine ⟨?_, ?_, trivial⟩
  · conv => whnf
    exact ⟨rfl, rfl, trivial⟩
  · conv => whnf
end Go.Nv
end
section
namespace Go.Nv
open Go.Proofs Nw
set_option maxRecDepth 100000
set_option linter.unusedVariables false
set_option linter.unusedSimpArgs false
abbrev bL (l : List Bool) : List D := l.map fun b => .v (.bool b)
noncomputable def ebSt (x0 y0 x1 y1 : Rat) (c r : Int) (f : FuncId) (cap : List D) (g : Nat → Bool) (i : Nat) : St :=
  ⟨fr 27 [(0, .own 3 0), (1, .d (.p 0 (grD x0 y0 x1 y1 c r).cells)), (8, .d (i64 (c * r))), (9, .d (i64 i))],
   [.dead, .box 58 [.own 2 0], .row 0 4 1 1 (bL ((List.range i).map g)),
    .loop .ready none #[10, 11] (rfO Tryz.f90.body).1 (rfO Tryz.f90.body).2 (fr 19 [(3, .d (.p 0 [.f f cap])), (5, .ptr 1 0 0)])]⟩
end Go.Nv
end
section
namespace Go.Nv
open Go.Proofs Nw
set_option maxRecDepth 100000
set_option linter.unusedVariables false
set_option linter.unusedSimpArgs false
end Go.Nv
end
section
namespace Go.Nv
open Go.Proofs Nw
set_option maxRecDepth 100000
set_option linter.unusedVariables false
set_option linter.unusedSimpArgs false
section
variable {x0 y0 x1 y1 : Rat}
end
end Go.Nv
end
