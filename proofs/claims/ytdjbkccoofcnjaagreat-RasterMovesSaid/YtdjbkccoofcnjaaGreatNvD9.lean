import Derived.Test.YtdjbkccoofcnjaaGreatNvD8
set_option linter.all false
set_option linter.unusedVariables false
set_option linter.unusedSimpArgs false
section
namespace Go.Nv
open Go.Proofs Nw
set_option maxRecDepth 100000
set_option linter.unusedVariables false
set_option linter.unusedSimpArgs false
@[irreducible] def sBd : Nat := 200000000
end Go.Nv
end
section
namespace Go.Nv
open Go.Proofs Nw
set_option maxRecDepth 100000
set_option linter.unusedVariables false
set_option linter.unusedSimpArgs false
theorem gtP_ok {p : RD × RD} (h : gtP p = false) : BP 12 (vP p) ∧ SzP p := by
  unfold gtP at h
  rw [Bool.or_eq_false_iff] at h
  exact ⟨⟨gtR_bd h.1, gtR_bd h.2⟩, gtR_sz h.1, gtR_sz h.2⟩
theorem g22_ok {o : List (RD × RD)} {hs : List (List (RD × RD))} (h : g22 o hs = false) : PgOk o hs 12 := by
  unfold g22 at h
  rw [Bool.or_eq_false_iff] at h
  have g := g11_f h.1
  exact ⟨by have := g.lo; omega, by have := g.lh; omega, fun p hp => gtP_ok (g.ob p hp), fun x hx p hp => gtP_ok (g.hb x hx p hp), fun x hx => by have := g.hl x hx; omega⟩
theorem cover_any {o : List (RD × RD)} {hs : List (List (RD × RD))} (h : PgOk o hs 12) {a b c d : RD} (ga : gtR a = false) (gb : gtR b = false) (gc : gtR c = false) (gd : gtR d = false) (m k : Int) :
    ∃ xs f, Fun Tryz.prog 13 [pgR o hs, quR a b c d, i64 m, i64 k] [.l xs, i64 f] ∧ (f = 0 → 1 ≤ m ∧ m ≤ 128 ∧ 1 ≤ k ∧ k ≤ 128 ∧ pgE o hs = 0 ∧ a.val < c.val ∧ b.val < d.val ∧ (canon a.val = a ∧ canon b.val = b ∧ canon c.val = c ∧ canon d.val = d)) := by
  have ha := gtR_sz ga
  have hb := gtR_sz gb
  have hc := gtR_sz gc
  have hd := gtR_sz gd
  cases hw : vbB a b c d with
  | false => exact ⟨_, _, cover_x h (by omega) a b c d ha hb hc hd hw m k, fun hh => absurd hh (by decide)⟩
  | true =>
    unfold vbB at hw
    obtain ⟨w1, w2, w3, w4⟩ := of_decide_eq_true hw
    rw [okP_zero] at w1 w2
    have ba := gtR_bd ga
    have bb := gtR_bd gb
    have bc := gtR_bd gc
    have bd := gtR_bd gd
    have eq1 : quR a b c d = quD a.val b.val c.val d.val := by rw [quD_eq, w1.1, w1.2, w2.1, w2.2]
    rw [eq1]
    by_cases hp : pgE o hs = 0
    · by_cases hz : m < 1 ∨ m > 128 ∨ k < 1 ∨ k > 128
      · exact ⟨_, _, cover_s h (by omega) (.mk ba (by omega)) (.mk bb (by omega)) (.mk bc (by omega)) (.mk bd (by omega)) w3 w4 hp m k (by unfold gcE; rw [if_pos hz]), fun hh => absurd hh (by decide)⟩
      · exact ⟨_, _, cover_c h (by omega) ba bb bc bd w3 w4 hp (by omega) (by omega), fun _ => ⟨by omega, by omega, by omega, by omega, hp, w3, w4, w1.1, w1.2, w2.1, w2.2⟩⟩
    · exact ⟨_, _, cover_p h (by omega) (.mk ba (by omega)) (.mk bb (by omega)) (.mk bc (by omega)) (.mk bd (by omega)) w3 w4 hp m k, fun hh => absurd hh (by decide)⟩
end Go.Nv
end
section
namespace Go.Nv
open Go.Proofs Nw
set_option maxRecDepth 100000
set_option linter.unusedVariables false
set_option linter.unusedSimpArgs false
def cnB (x0 y0 x1 y1 : Rat) (c r : Int) (o : List P2) (hs : List (List P2)) (j : Nat) : Bool :=
  decide (0 ≤ whV o hs (midP (pxQ x0 y0 x1 y1 c r j).1 (pxQ x0 y0 x1 y1 c r j).2))
end Go.Nv
end
section
namespace Go.Nv
open Go.Proofs Nw
set_option maxRecDepth 100000
set_option linter.unusedVariables false
set_option linter.unusedSimpArgs false
theorem eqq_c (l : List Rat) (hl : l.length ≤ 100000) : Fun Tryz.prog 30 [.l (qL l), .l (qL l)] [.v (.bool true)] := by
  have hll : (qL l).length = l.length := by simp
  refine fun_of_go (fun t => false) mixed tOk Tryz.func30 rfl rfl ?_
  conv => whnf
  refine cond_ne (fun h => absurd rfl h) (fun _ => ?_)
  conv => whnf
  refine loop_intro (fun t => false) (fun i : Nat => ⟨fr 26 [(0, .d (.l (qL l))), (1, .d (.l (qL l))), (12, .d (i64 (qL l).length)), (13, .d (i64 i))], []⟩) (fun i => i ≤ l.length) (fun i => l.length - i) 0 mixed tOk (by omega) ?_ ?_
  · refine weak_r ?_ ?_ <;> repeat' (first | exact trivial | exact rfl | refine And.intro ?_ ?_)
  · intro i hi
    conv => whnf
    refine cond_d (fun hlt => ?_) (fun hge => ?_)
    · have hlt' : i < l.length := by omega
      have hg : (qL l)[((i : Nat) : Int).toNat]? = some (ratD l[i]) := by simp [hlt']
      conv => whnf
      refine idx_intro (ratD l[i]) hg (by omega) (qL_uni _) ?_
      conv => whnf
      refine idx_intro (ratD l[i]) hg (by omega) (qL_uni _) ?_
      conv => whnf
      refine safe_intro (by kernel_rfl) ?_
      conv => whnf
      refine cond_bf (nq _) ?_
      conv => whnf
      refine sd_d (by omega) ?_
      conv => whnf
      refine ⟨i + 1, by omega, by omega, ?_⟩
      rw [Int.natCast_succ]
      refine weak_r ?_ ?_ <;> repeat' (first | exact trivial | exact rfl | refine And.intro ?_ ?_)
    · conv => whnf
      refine ⟨?_, trivial⟩
      conv => whnf
theorem mapped_x {o : List (RD × RD)} {hs : List (List (RD × RD))} {z : Bool} {f : D} (hf : ∃ g cap, f = .f g cap) {e : Int} (hck : Fun Tryz.prog 48 [pgR o hs] [i64 e]) (h : e ≠ 0 ∨ z = false) :
    Fun Tryz.prog 117 [pgR o hs, .v (.bool z), f] [.a [.v (.slice none 0 0), .v (.slice none 0 0)], i64 1] := by
  obtain ⟨g, cap, rfl⟩ := hf
  refine fun_of_go (fun t => t == 6 || t == 9) mixed tOk Tryz.func117 rfl rfl ?_
  conv => whnf
  refine call_data rfl rfl hck ?_
  conv => whnf
  refine cond_ne (fun c1 => ?_) (fun c1 => ?_)
  · conv => whnf
    refine ⟨?_, ?_, trivial⟩
    · conv => whnf
      exact ⟨rfl, rfl, trivial⟩
    · conv => whnf
  · have hz : z = false := h.resolve_left (fun h1 => h1 c1)
    subst hz
    conv => whnf
    refine ⟨?_, ?_, trivial⟩
    · conv => whnf
      exact ⟨rfl, rfl, trivial⟩
    · conv => whnf
theorem move_x {o : List (RD × RD)} {hs : List (List (RD × RD))} {p q : RD} {e : Int} (hp : Sz p) (hq : Sz q) (hck : Fun Tryz.prog 48 [pgR o hs] [i64 e]) (h : e ≠ 0 ∨ okP p q ≠ 0) :
    Fun Tryz.prog 46 [pgR o hs, ptR p q] [.a [.v (.slice none 0 0), .v (.slice none 0 0)], i64 1] := by
  have hm := mapped_x (z := bz (okP p q == 0)) (f := .f 118 [.p 0 (ptR p q).cells]) ⟨_, _, rfl⟩ hck (h.imp id fun h1 => by rw [bz_eq]; simpa using h1)
  refine fun_of_go (fun t => t == 4) mixed tOk Tryz.func46 rfl rfl ?_
  conv => whnf
  refine callv_data (vcheck_c p q hp hq) ?_
  conv => whnf
  refine callv_data hm ?_
  conv => whnf
  refine safe_intro (by kernel_rfl) ?_
  conv => whnf
  refine ⟨?_, ?_, trivial⟩
  · conv => whnf
    exact ⟨rfl, rfl, trivial⟩
  · conv => whnf
theorem law9a (hA : Fun Tryz.prog 12 [] [.v (.bool true)]) (o : List (RD × RD)) (hs : List (List (RD × RD))) (a b c d p q : RD) (m k : Int)
    (h : (g22 o hs || gtT [(a, b), (c, d), (p, q)] m k) = true) : Fun Tryz.prog 9 [pgR o hs, quR a b c d, i64 m, i64 k, ptR p q] [.v (.bool true)] := by
  have hg := greatP_c o hs [(a, b), (c, d), (p, q)] (by simp) m k
  rw [h] at hg
  refine fun_of_go (fun t => t == 13) mixed tOk Tryz.func9 rfl rfl ?_
  conv => whnf
  refine call_data rfl rfl hg ?_
  conv => whnf
  refine call_data rfl rfl hA ?_
  conv => whnf
  exact ⟨rfl, trivial⟩
theorem law9e (hA : Fun Tryz.prog 12 [] [.v (.bool true)]) (o : List (RD × RD)) (hs : List (List (RD × RD))) (a b c d p q : RD) (m k : Int) {xs : List D} {x y : D} {f f' : Int}
    (h : (g22 o hs || gtT [(a, b), (c, d), (p, q)] m k) = false) (h1 : Fun Tryz.prog 13 [pgR o hs, quR a b c d, i64 m, i64 k] [.l xs, i64 f]) (h2 : Fun Tryz.prog 46 [pgR o hs, ptR p q] [.a [x, y], i64 f'])
    (hf : f ≠ 0 ∨ f' ≠ 0) : Fun Tryz.prog 9 [pgR o hs, quR a b c d, i64 m, i64 k, ptR p q] [.v (.bool true)] := by
  have hg := greatP_c o hs [(a, b), (c, d), (p, q)] (by simp) m k
  rw [h] at hg
  refine fun_of_go (fun t => t == 13) mixed tOk Tryz.func9 rfl rfl ?_
  conv => whnf
  refine call_data rfl rfl hg ?_
  conv => whnf
  refine call_data rfl rfl h1 ?_
  conv => whnf
  refine call_data rfl rfl h2 ?_
  conv => whnf
  refine cond_ne (fun c1 => ?_) (fun c1 => ?_)
  · conv => whnf
    refine call_data rfl rfl hA ?_
    conv => whnf
    exact ⟨rfl, trivial⟩
  · have hz : f' ≠ 0 := hf.resolve_left (fun h1 => h1 c1)
    conv => whnf
    refine cond_bt (by simpa using hz) ?_
    conv => whnf
    refine call_data rfl rfl hA ?_
    conv => whnf
    exact ⟨rfl, trivial⟩
set_option maxHeartbeats 1000000 in
theorem law9b (hA : Fun Tryz.prog 12 [] [.v (.bool true)]) {o o' : List P2} {hs hs' : List (List P2)} {x0 y0 x1 y1 u v : Rat} {c r : Int} {L : List Rat} {n : Nat} (h0 : Bd n x0) (h1 : Bd n y0) (h2 : Bd n x1) (h3 : Bd n y1) (hu : Bd n u) (hv : Bd n v) (hn : n < 1000)
    (hL : L.length ≤ 100000)
    (hg : Fun Tryz.prog 11 [.a [.l (pL o), .l (hQ hs)], i64 c, i64 r, .l [ptD x0 y0, ptD x1 y1, ptD u v]] [.v (.bool false)])
    (k1 : Fun Tryz.prog 13 [.a [.l (pL o), .l (hQ hs)], quD x0 y0 x1 y1, i64 c, i64 r] [.l (qL L), i64 0])
    (k2 : Fun Tryz.prog 46 [.a [.l (pL o), .l (hQ hs)], ptD u v] [.a [.l (pL o'), .l (hQ hs')], i64 0])
    (k3 : Fun Tryz.prog 13 [.a [.l (pL o'), .l (hQ hs')], quD (x0 + u) (y0 + v) (x1 + u) (y1 + v), i64 c, i64 r] [.l (qL L), i64 0]) :
    Fun Tryz.prog 9 [.a [.l (pL o), .l (hQ hs)], quD x0 y0 x1 y1, i64 c, i64 r, ptD u v] [.v (.bool true)] := by
  refine fun_of_go (fun t => t == 13) mixed tOk Tryz.func9 rfl rfl ?_
  conv => whnf
  refine call_data rfl rfl hg ?_
  conv => whnf
  refine call_data rfl rfl k1 ?_
  conv => whnf
  refine call_data rfl rfl k2 ?_
  conv => whnf
  refine cond_bf (by decide) ?_
  conv => whnf
  refine cond_bf (by decide) ?_
  conv => whnf
  refine callv_data (vadd_c (.mk h0 (by omega)) (.mk h1 (by omega)) (.mk hu (by omega)) (.mk hv (by omega))) ?_
  conv => whnf
  refine callv_data (vadd_c (.mk h2 (by omega)) (.mk h3 (by omega)) (.mk hu (by omega)) (.mk hv (by omega))) ?_
  conv => whnf
  refine callv_data k3 ?_
  conv => whnf
  refine safe_intro (by kernel_rfl) ?_
  conv => whnf
  refine cond_bt (by decide) ?_
  conv => whnf
  refine call_data rfl rfl (eqq_c L hL) ?_
  conv => whnf
  refine call_data rfl rfl hA ?_
  conv => whnf
  exact ⟨rfl, trivial⟩
end Go.Nv
end
