import Derived.Test.YtdjbkccoofcnjaaGreatNvD10
import Derived.Test.YtdjbkccoofcnjaaGreatNvD9
import Derived.Test.YtdjbkccoofcnjaaGreatNvD8
set_option linter.all false
set_option linter.unusedVariables false
set_option linter.unusedSimpArgs false
section
namespace Go.Nv
open Go.Proofs Nw
set_option maxRecDepth 100000
set_option linter.unusedVariables false
set_option linter.unusedSimpArgs false
def cnB (x0 y0 x1 y1 : Rat) (c r : Int) (o : List P2) (hs : List (List P2)) (j : Nat) : Bool :=
  decide (0 ≤ whV o hs (midP (pxQ x0 y0 x1 y1 c r j).1 (pxQ x0 y0 x1 y1 c r j).2))
end Go.Nv
end
section
namespace Go.Nv
open Go.Proofs Nw
set_option maxRecDepth 100000
set_option linter.unusedVariables false
set_option linter.unusedSimpArgs false
end Go.Nv
end
section
namespace Go.Nv
open Go.Proofs Nw
set_option maxRecDepth 100000
set_option linter.unusedVariables false
set_option linter.unusedSimpArgs false
theorem Ord.tr {hs : List (List P2)} (h : Ord hs) (hr : ∀ x ∈ hs, RgOk x) (v : P2) : Ord (trH v hs) := by
  intro i hi
  have hl : (trH v hs).length = hs.length := List.length_map ..
  rw [hl] at hi
  have h1 := h i hi
  have g : ∀ j, j < hs.length → (trH v hs).getD j [] = trL v (hs.getD j []) := fun j hj => by
    rw [List.getD_eq_getElem?_getD, List.getD_eq_getElem?_getD]
    unfold trH
    rw [List.getElem?_map, List.getElem?_eq_getElem hj]; rfl
  have p : ∀ j, j < hs.length → 0 < (hs.getD j []).length := fun j hj => by
    rw [List.getD_eq_getElem?_getD, List.getElem?_eq_getElem hj]
    have := (hr _ (List.getElem_mem hj)).len
    simp only [Option.getD_some]; omega
  rw [g i (by omega), g (i + 1) hi, tr_ix (p i (by omega)), tr_ix (p (i + 1) hi), tr_cmP]
  exact h1
end Go.Nv
end
section
namespace Go.Nv
open Go.Proofs Nw
set_option maxRecDepth 100000
set_option linter.unusedVariables false
set_option linter.unusedSimpArgs false
theorem law10a (hA : Fun Tryz.prog 12 [] [.v (.bool true)]) (o : List (RD × RD)) (hs : List (List (RD × RD))) (p q : RD) (h : g22 o hs = true) : Fun Tryz.prog 10 [pgR o hs, ptR p q] [.v (.bool true)] := by
  have hg := great22_c o hs
  rw [h] at hg
  refine fun_of_go (fun t => false) mixed tOk Tryz.func10 rfl rfl ?_
  conv => whnf
  refine call_data rfl rfl hg ?_
  conv => whnf
  refine call_data rfl rfl hA ?_
  conv => whnf
  exact ⟨rfl, trivial⟩
theorem law10e (hA : Fun Tryz.prog 12 [] [.v (.bool true)]) (o : List (RD × RD)) (hs : List (List (RD × RD))) (p q : RD) (h : g22 o hs = false) (h2 : gtP (p, q) = true) : Fun Tryz.prog 10 [pgR o hs, ptR p q] [.v (.bool true)] := by
  have hg := great22_c o hs
  rw [h] at hg
  have h7 := great7 [(p, q)] (by simp)
  rw [show [(p, q)].any gtP = true by simp [h2]] at h7
  refine fun_of_go (fun t => false) mixed tOk Tryz.func10 rfl rfl ?_
  conv => whnf
  refine call_data rfl rfl hg ?_
  conv => whnf
  refine call_data rfl rfl h7 ?_
  conv => whnf
  refine call_data rfl rfl hA ?_
  conv => whnf
  exact ⟨rfl, trivial⟩
theorem law10f (hA : Fun Tryz.prog 12 [] [.v (.bool true)]) (o : List (RD × RD)) (hs : List (List (RD × RD))) (p q : RD) (h : g22 o hs = false) (h2 : gtP (p, q) = false) (hp : Sz p) (hq : Sz q) {e : Int} (hck : Fun Tryz.prog 48 [pgR o hs] [i64 e]) (hb : e ≠ 0 ∨ okP p q ≠ 0) :
    Fun Tryz.prog 10 [pgR o hs, ptR p q] [.v (.bool true)] := by
  have hg := great22_c o hs
  rw [h] at hg
  have h7 := great7 [(p, q)] (by simp)
  rw [show [(p, q)].any gtP = false by simp [h2]] at h7
  refine fun_of_go (fun t => false) mixed tOk Tryz.func10 rfl rfl ?_
  conv => whnf
  refine call_data rfl rfl hg ?_
  conv => whnf
  refine call_data rfl rfl h7 ?_
  conv => whnf
  refine call_data rfl rfl hck ?_
  conv => whnf
  refine cond_ne (fun c1 => ?_) (fun c1 => ?_)
  · conv => whnf
    refine call_data rfl rfl hA ?_
    conv => whnf
    exact ⟨rfl, trivial⟩
  · have hz : okP p q ≠ 0 := hb.resolve_left (fun h1 => h1 c1)
    conv => whnf
    refine call_data rfl rfl (vcheck_c p q hp hq) ?_
    conv => whnf
    refine cond_bt (by simpa using hz) ?_
    conv => whnf
    refine call_data rfl rfl hA ?_
    conv => whnf
    exact ⟨rfl, trivial⟩
def odX (hs : List (List P2)) (q : P2) : Bool := hs.foldl (fun z l => z != odB l q) false
theorem law10b (hA : Fun Tryz.prog 12 [] [.v (.bool true)]) {o : List P2} {hs : List (List P2)} {x y : Rat} {n : Nat} {L : List P2} {H : Bool} {s : Int} (ho : ∀ p ∈ o, BP n p) (hlo : o.length ≤ 100) (hh : ∀ h ∈ hs, (∀ p ∈ h, BP n p) ∧ h.length ≤ 100) (hx : Bd n x) (hy : Bd n y) (hn : n < 10000) (hlh : hs.length ≤ 8)
    (hg : Fun Tryz.prog 38 [.a [.l (pL o), .l (hQ hs)]] [.v (.bool false)]) (h7 : Fun Tryz.prog 39 [.l [ptD x y]] [.v (.bool false)])
    (hck : Fun Tryz.prog 48 [.a [.l (pL o), .l (hQ hs)]] [i64 0])
    (hvc : Fun Tryz.prog 49 [ptD x y] [i64 0])
    (k1 : Fun Tryz.prog 41 [.a [.l (pL o), .l (hQ hs)], ratD y] [.l (pL L), i64 0])
    (k2 : Fun Tryz.prog 50 [.l (pL L), ratD x] [.v (.bool H), i64 0])
    (k3 : Fun Tryz.prog 51 [.a [.l (pL o), .l (hQ hs)], ptD x y] [i64 s, i64 0])
    (k5 : Fun Tryz.prog 53 [.l (pL L)] [i64 0])
    (e1 : H = odX (o :: hs) (x, y)) (e2 : s = 0 ∨ H = decide (s = 1)) :
    Fun Tryz.prog 10 [.a [.l (pL o), .l (hQ hs)], ptD x y] [.v (.bool true)] := by
  have hall : ∀ l ∈ o :: hs, (∀ p ∈ l, BP n p) ∧ l.length ≤ 100 := fun l hl => by
    rcases List.mem_cons.1 hl with rfl | hl
    · exact ⟨ho, hlo⟩
    · exact hh l hl
  have hll : (hQ (o :: hs)).length = (o :: hs).length := by simp
  have hl9 : (o :: hs).length ≤ 9 := by simp; omega
  refine fun_of_go (fun t => t == 56) mixed tOk Tryz.func10 rfl rfl ?_
  conv => whnf
  refine call_data rfl rfl hg ?_
  conv => whnf
  refine call_data rfl rfl h7 ?_
  conv => whnf
  refine call_data rfl rfl hck ?_
  conv => whnf
  refine cond_bf (by decide) ?_
  conv => whnf
  refine call_data rfl rfl hvc ?_
  conv => whnf
  refine cond_bf (by decide) ?_
  conv => whnf
  refine call_data rfl rfl k1 ?_
  conv => whnf
  refine call_data rfl rfl k2 ?_
  conv => whnf
  refine call_data rfl rfl k3 ?_
  conv => whnf
  have hu1 : Uni 1 [D.l (pL o)] := by intro x hx; rcases List.mem_singleton.1 hx with rfl; rfl
  have hll2 : (hQ hs).length = hs.length := by simp
  refine sd_app hu1 (hQ_uni _) (by simp only [maxLen, List.length_cons, List.length_nil]; omega) ?_
  conv => whnf
  refine loop_intro (fun t => t == 56) (fun i : Nat => ⟨fr 110 [(3, .d (.p 0 (ptD x y).cells)), (5, .d (.l (pL L))), (6, .d (i64 0)), (7, .d (.v (.bool H))), (8, .d (i64 0)), (9, .d (i64 s)), (10, .d (i64 0)), (11, .d (.v (.bool (odX ((o :: hs).take i) (x, y))))), (59, .own 0 0), (60, .d (i64 (hQ (o :: hs)).length)), (61, .d (i64 i))], [.row 0 22 1 24 (hQ (o :: hs))]⟩) (fun i => i ≤ (o :: hs).length) (fun i => (o :: hs).length - i) 0 mixed tOk (by omega) ?_ ?_
  · refine weak_r ?_ ?_ <;> repeat' (first | exact trivial | exact rfl | refine And.intro ?_ ?_)
  · intro i hi
    conv => whnf
    refine cond_d (fun hlt => ?_) (fun hge => ?_)
    · have hlt' : i < (o :: hs).length := by omega
      have hm := hall _ (List.getElem_mem hlt')
      have hsn : odX ((o :: hs).take (i + 1)) (x, y) = (odX ((o :: hs).take i) (x, y) != odB (o :: hs)[i] (x, y)) := by
        rw [List.take_succ_eq_append_getElem hlt']; unfold odX; rw [List.foldl_append]; rfl
      have hpar := parity_c (o :: hs)[i] (x, y) hm.1 ⟨hx, hy⟩ (by omega) (by omega)
      have hget : (hQ (o :: hs))[i]? = some (.l (pL (o :: hs)[i])) := by rw [List.getElem?_map, List.getElem?_eq_getElem hlt']; rfl
      generalize (o :: hs)[i] = l at *
      conv => whnf
      refine sd_du (by omega) (hQ_uni _) ?_
      conv => whnf
      refine rld_intro (i := i) (r := 0) _ _ hget (by omega) (by omega) (hQ_uni _) rfl ?_
      conv => whnf
      refine call_data rfl rfl hpar ?_
      conv => whnf
      refine cond_bf (by decide) ?_
      conv => whnf
      refine sd_d (by omega) ?_
      conv => whnf
      refine ⟨i + 1, by omega, by omega, ?_⟩
      rw [hsn, Int.natCast_succ]
      refine weak_r ?_ ?_ <;> repeat' (first | exact trivial | exact rfl | refine And.intro ?_ ?_)
      conv => whnf
      rw [bz_eq]; rfl
    · have : i = (o :: hs).length := by omega
      subst this
      rw [show (o :: hs).take (o :: hs).length = o :: hs from List.take_length]
      conv => whnf
      refine cond_bt (by decide) ?_
      conv => whnf
      refine cond_bt (by decide) ?_
      conv => whnf
      refine cond_bt (by decide) ?_
      conv => whnf
      refine call_data rfl rfl k5 ?_
      conv => whnf
      refine cond_bt (by decide) ?_
      conv => whnf
      refine cond_bt (by rw [e1]; exact beq_self_eq_true _) ?_
      conv => whnf
      refine cond_intro (fun c1 => ?_) (fun c1 => ?_)
      · conv => whnf
        refine call_data rfl rfl hA ?_
        conv => whnf
        exact ⟨rfl, trivial⟩
      · have hs0 : s ≠ 0 := by rw [bz_eq] at c1; simpa using c1
        have hH := e2.resolve_left hs0
        conv => whnf
        refine cond_bt (by rw [hH, bz_eq, show (s == 1) = decide (s = 1) from rfl]; exact beq_self_eq_true _) ?_
        conv => whnf
        refine call_data rfl rfl hA ?_
        conv => whnf
        exact ⟨rfl, trivial⟩
end Go.Nv
end
