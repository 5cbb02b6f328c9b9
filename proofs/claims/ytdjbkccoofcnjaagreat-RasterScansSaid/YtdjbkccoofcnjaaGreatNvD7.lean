import Derived.Test.YtdjbkccoofcnjaaGreatNvD6
import Derived.Test.YtdjbkccoofcnjaaGreatNvC10
set_option linter.all false
set_option linter.unusedVariables false
set_option linter.unusedSimpArgs false
section
namespace Go.Nv
open Go.Proofs Nw
set_option maxRecDepth 100000
set_option linter.unusedVariables false
set_option linter.unusedSimpArgs false
theorem parity_c (l : List P2) (p : P2) {n : Nat} (hl : ∀ p ∈ l, BP n p) (hp : BP n p) (hn : n < 1000000) (hlen : l.length ≤ 1000) : Fun Tryz.prog 52 [.l (pL l), pD p] [.v (.bool (odB l p)), i64 0] := by
  have hll : (pL l).length = l.length := by simp
  refine fun_of_go (fun t => false) mixed tOk Tryz.func52 rfl rfl ?_
  conv => whnf
  refine call_data rfl rfl (rcanon_q l hl hn (by omega)) ?_
  conv => whnf
  refine call_data rfl rfl (rcanon_q [p] (n := n) (fun q hq => by rw [List.mem_singleton.1 hq]; exact hp) hn (by simp)) ?_
  conv => whnf
  refine cond_df (by omega) ?_
  conv => whnf
  refine call_data rfl rfl (odd_c l p hl hp (by omega) (by omega)) ?_
  conv => whnf
  refine ⟨?_, ?_, trivial⟩
  · conv => whnf
  · conv => whnf
theorem spempty_c {r : P2} (h : QP r) : Fun Tryz.prog 125 [pD r] [.v (.bool (decide (0 ≤ cmpI r.1 r.2)))] := by
  refine fun_of_go (fun t => false) mixed tOk Tryz.func125 rfl rfl ?_
  conv => whnf
  refine call_data rfl rfl (cmp_q h.1 h.2) ?_
  conv => whnf
  refine ⟨?_, trivial⟩
  conv => whnf
  rw [bz_eq]
theorem spcanon_c {r : P2} {n : Nat} (h : BP n r) (hn : n < 1000000) : Fun Tryz.prog 195 [pD r] [pD r] := by
  have h0 : Bd 0 (0 : Rat) := bd_int 0 (by simp)
  have e1 := add_q (.mk h.1 (by omega)) (.mk h0 (by omega))
  have e2 := add_q (.mk h.2 (by omega)) (.mk h0 (by omega))
  rw [Q.add0] at e1 e2
  have hz := of_r 0 (by omega)
  rw [Rat.intCast_zero] at hz
  refine fun_of_go (fun t => t == 2 || t == 3) mixed tOk Tryz.func195 rfl rfl ?_
  conv => whnf
  refine call_data rfl rfl hz ?_
  conv => whnf
  refine callv_data e1 ?_
  conv => whnf
  refine callv_data e2 ?_
  conv => whnf
  refine safe_intro (by kernel_rfl) ?_
  conv => whnf
  refine ⟨?_, trivial⟩
  conv => whnf
  exact ⟨rfl, rfl, rfl, rfl, rfl, rfl, trivial⟩
def SpOk (l : List P2) : Prop := ∀ i (h : i < l.length), l[i].1 < l[i].2 ∧ ∀ (h' : i + 1 < l.length), l[i].2 < l[i + 1].1
theorem spcheck_c {l : List P2} {n : Nat} (hl : ∀ p ∈ l, BP n p) (hs : SpOk l) (hn : n < 1000000) (hlen : l.length ≤ 1000) : Fun Tryz.prog 53 [.l (pL l)] [i64 0] := by
  have hll : (pL l).length = l.length := by simp
  refine fun_of_go (fun t => t == 4) mixed tOk Tryz.func53 rfl rfl ?_
  conv => whnf
  refine cond_df (by omega) ?_
  conv => whnf
  refine loop_intro (fun t => t == 4) (fun i : Nat => ⟨fr 32 [(0, .d (.l (pL l))), (8, .d (.l (pL l))), (9, .d (i64 (pL l).length)), (10, .d (i64 i))], []⟩) (fun i => i ≤ l.length) (fun i => l.length - i) 0 mixed tOk (by omega) ?_ ?_
  · refine weak_r ?_ ?_ <;> repeat' (first | exact trivial | exact rfl | refine And.intro ?_ ?_)
  · intro i hi
    conv => whnf
    refine cond_d (fun hlt => ?_) (fun hge => ?_)
    · have hlt' : i < l.length := by omega
      have bi := hl _ (List.getElem_mem hlt')
      have hq := bi.q (by omega)
      have he := spempty_c hq
      rw [show decide (0 ≤ cmpI l[i].1 l[i].2) = false from decide_eq_false (by have := cmpI_neg.2 (hs i hlt').1; omega)] at he
      conv => whnf
      refine idx_intro (pD l[i]) (pL_get hlt') (by omega) (pL_uni l) ?_
      conv => whnf
      refine call_data rfl rfl he ?_
      conv => whnf
      refine cond_d (fun c1 => ?_) (fun c1 => ?_)
      · have e3 : ((i : Int) - 1) = ((i - 1 : Nat) : Int) := by omega
        have hi1 : i - 1 < l.length := by omega
        have hs1 := (hs (i - 1) hi1).2 (by omega)
        have bi1 := (hl _ (List.getElem_mem hi1)).q (by omega)
        have e4 : l[i - 1 + 1]'(by omega) = l[i] := by congr 1; omega
        rw [e4] at hs1
        conv => whnf
        refine sd_d (by omega) ?_
        conv => whnf
        refine idx_intro (pD l[i - 1]) (by rw [e3]; exact pL_get hi1) (by omega) (pL_uni l) ?_
        conv => whnf
        refine callv_data (cmp_q hq.1 bi1.2) ?_
        conv => whnf
        refine safe_intro (by kernel_rfl) ?_
        conv => whnf
        refine cond_df (by have := cmpI_pos.2 hs1; omega) ?_
        conv => whnf
        refine sd_d (by omega) ?_
        conv => whnf
        refine ⟨i + 1, by omega, by omega, ?_⟩
        rw [Int.natCast_succ]
        refine weak_dead 0 rfl ?_
        refine weak_r ?_ ?_ <;> repeat' (first | exact trivial | exact rfl | refine And.intro ?_ ?_)
      · conv => whnf
        refine safe_intro (by kernel_rfl) ?_
        conv => whnf
        refine sd_d (by omega) ?_
        conv => whnf
        refine ⟨i + 1, by omega, by omega, ?_⟩
        rw [Int.natCast_succ]
        refine weak_dead 0 rfl ?_
        refine weak_r ?_ ?_ <;> repeat' (first | exact trivial | exact rfl | refine And.intro ?_ ?_)
    · conv => whnf
      refine ⟨?_, trivial⟩
      conv => whnf
theorem has1_c {r : P2} {x : Rat} (h : QP r) (hx : Q x) : Fun Tryz.prog 214 [pD r, ratD x] [i64 (if r.2 ≤ x then -1 else 1)] := by
  refine fun_of_go (fun t => false) mixed tOk Tryz.func214 rfl rfl ?_
  conv => whnf
  refine call_data rfl rfl (cmp_q h.2 hx) ?_
  conv => whnf
  refine cond_d (fun c1 => ?_) (fun c1 => ?_)
  · rw [if_pos (cmpI_le.1 c1)]
    conv => whnf
    refine ⟨?_, trivial⟩
    conv => whnf
  · rw [if_neg (fun h => c1 (cmpI_le.2 h))]
    conv => whnf
    refine ⟨?_, trivial⟩
    conv => whnf
theorem bsearch_c {l : List P2} {x : Rat} {k : Nat} (hl : ∀ p ∈ l, QP p) (hx : Q x) (hlen : l.length ≤ 1000) (hk : k ≤ l.length) (h1 : ∀ j (h : j < l.length), j < k → l[j].2 ≤ x) (h2 : ∀ j (h : j < l.length), k ≤ j → x < l[j].2) :
    Fun Tryz.prog 213 [.l (pL l), ratD x, .f 214 []] [i64 k, .v (.bool false)] := by
  have hll : (pL l).length = l.length := by simp
  refine fun_of_go (fun t => false) mixed tOk Tryz.func213 rfl rfl ?_
  conv => whnf
  refine loop_intro (fun t => false) (fun p : Nat × Nat => ⟨fr 49 [(0, .d (.l (pL l))), (2, .d (.f 214 [])), (4, .d (.p 0 (ratD x).cells)), (8, .d (i64 (pL l).length)), (9, .d (i64 p.1)), (10, .d (i64 p.2))], []⟩) (fun p => p.1 ≤ k ∧ k ≤ p.2 ∧ p.2 ≤ l.length) (fun p => p.2 - p.1) (0, l.length) mixed tOk ⟨by omega, hk, by omega⟩ ?_ ?_
  · rw [← hll]
    refine weak_r ?_ ?_ <;> repeat' (first | exact trivial | exact rfl | refine And.intro ?_ ?_)
  · rintro ⟨lo, hi⟩ ⟨a1, a2, a3⟩
    simp only at a1 a2 a3
    conv => whnf
    refine cond_d (fun hlt => ?_) (fun hge => ?_)
    · have e1 : ((lo : Int) + hi) = ((lo + hi : Nat) : Int) := rfl
      obtain ⟨m, hm⟩ : ∃ m, m = (lo + hi) / 2 := ⟨_, rfl⟩
      have em : Int.fdiv (((lo : Int) + (hi : Int)) % 18446744073709551616) (2 ^ min (Int.toNat 1) IntKind.u64.bits) = (m : Int) := by
        rw [Int.emod_eq_of_lt (by omega) (by omega), hm, Int.fdiv_eq_ediv_of_nonneg _ (by decide)]; rfl
      have hmlt : m < l.length := by omega
      have bm := hl _ (List.getElem_mem hmlt)
      have hmh : m < hi := by omega
      have hml : lo ≤ m := by omega
      have hh1 := has1_c bm hx
      conv => whnf
      refine sd_d (by omega) ?_
      conv => whnf
      refine sd_d (by decide) ?_
      conv => whnf
      rw [em]
      refine sd_d (by omega) ?_
      conv => whnf
      refine idx_intro (pD l[m]) (by first | exact pL_get hmlt | (rw [em]; exact pL_get hmlt)) (by omega) (pL_uni l) ?_
      conv => whnf
      refine callv_data hh1 ?_
      conv => whnf
      refine safe_intro (by kernel_rfl) ?_
      conv => whnf
      refine cond_d (fun c1 => ?_) (fun c1 => ?_)
      · have hmk : m < k := by
          refine Decidable.byContradiction fun hc => ?_
          have := h2 m hmlt (by omega)
          rw [if_neg (by grind)] at c1
          omega
        conv => whnf
        refine sd_d (by omega) ?_
        conv => whnf
        refine ⟨(m + 1, hi), ⟨by show m + 1 ≤ k; omega, a2, a3⟩, by show hi - (m + 1) < hi - lo; omega, ?_⟩
        rw [show ((m : Int) + 1) = ((m + 1 : Nat) : Int) from rfl]
        refine weak_r ?_ ?_ <;> repeat' (first | exact trivial | exact rfl | refine And.intro ?_ ?_)
      · have hmk : k ≤ m := by
          refine Decidable.byContradiction fun hc => ?_
          have := h1 m hmlt (by omega)
          rw [if_pos this] at c1
          omega
        conv => whnf
        refine ⟨(lo, m), ⟨a1, hmk, by show m ≤ l.length; omega⟩, by show m - lo < hi - lo; omega, ?_⟩
        refine weak_r ?_ ?_ <;> repeat' (first | exact trivial | exact rfl | refine And.intro ?_ ?_)
    · have hlh : lo = k := by omega
      subst hlh
      conv => whnf
      refine cond_d (fun c1 => ?_) (fun c1 => ?_)
      · have hlt' : lo < l.length := by omega
        have bl := hl _ (List.getElem_mem hlt')
        have hh1 := has1_c bl hx
        rw [if_neg (by have := h2 lo hlt' (Nat.le_refl _); grind)] at hh1
        conv => whnf
        refine idx_intro (pD l[lo]) (pL_get hlt') (by omega) (pL_uni l) ?_
        conv => whnf
        refine callv_data hh1 ?_
        conv => whnf
        refine safe_intro (by kernel_rfl) ?_
        conv => whnf
        refine ⟨?_, ?_, trivial⟩
        · conv => whnf
        · conv => whnf
          first | rfl | (rw [bz_eq]; rfl)
      · conv => whnf
        refine safe_intro (by kernel_rfl) ?_
        conv => whnf
        refine ⟨?_, ?_, trivial⟩
        · conv => whnf
        · conv => whnf
end Go.Nv
end
section
namespace Go.Nv
open Go.Proofs Nw
set_option maxRecDepth 100000
set_option linter.unusedVariables false
set_option linter.unusedSimpArgs false
noncomputable def e1St (o : List P2) (hs : List (List P2)) (i : Nat) : St :=
  ⟨fr 25 [(0, .own 3 0), (1, .d (.p 0 [.l (pL o), .l (hQ hs)])), (11, .d (.l (hQ hs))), (12, .d (i64 (hQ hs).length)), (13, .d (i64 i))],
   [.dead, .box 124 [.own 2 0], .row 0 46 12 160 (eL (cyc o ++ (hs.take i).flatMap cyc)),
    .loop .ready none #[8, 9] (rfO Tryz.f187.body).1 (rfO Tryz.f187.body).2 (fr 15 [(3, .ptr 1 0 0)])]⟩
theorem e1_len {o : List P2} {hs : List (List P2)} (hlo : o.length ≤ 100) (hh : ∀ h ∈ hs, h.length ≤ 100) (hlh : hs.length ≤ 8) : (cyc o ++ hs.flatMap cyc).length ≤ 900 := by
  have : ∀ l : List (List P2), (∀ h ∈ l, h.length ≤ 100) → (l.flatMap cyc).length ≤ 100 * l.length := by
    intro l
    induction l with
    | nil => intro _; simp
    | cons a l ih =>
      intro h
      have := ih (fun x hx => h x (List.mem_cons_of_mem _ hx))
      have := h a List.mem_cons_self
      simp only [List.flatMap_cons, List.length_append, cyc_len, List.length_cons]
      omega
  have := this hs hh
  rw [List.length_append, cyc_len]
  omega
theorem edges1_c {o : List P2} {hs : List (List P2)} {n : Nat} (ho : ∀ p ∈ o, BP n p) (hlo : o.length ≤ 100) (hh : ∀ h ∈ hs, (∀ p ∈ h, BP n p) ∧ h.length ≤ 100) (hn : n < 10000) (hlh : hs.length ≤ 8) :
    Fun Tryz.prog 187 [.a [.l (pL o), .l (hQ hs)]] [.l (eL (cyc o ++ hs.flatMap cyc))] := by
  have hll : (hQ hs).length = hs.length := by simp
  refine fun_of_go (fun t => t == 3 || t == 5) mixed tOk Tryz.func187 rfl rfl ?_
  conv => whnf
  refine call_data rfl rfl (rings_c o hs) ?_
  conv => whnf
  refine okc_own 1 0 46 12 160 ?_
  refine range_intro (g := 285) (cap := [.d (.p 0 [.l (pL o), .l (hQ hs)])]) (fun t => t == 3 || t == 5) mixed tOk rfl rfl rfl rfl rfl ?_
  conv => whnf
  refine call_yield (fun t => t == 3 || t == 5) mixed tOk rfl rfl rfl ?_
  conv => whnf
  refine okc_go (fun t => t == 3 || t == 5) mixed tOk ?_
  conv => whnf
  refine callv_data (edges_c o (by omega)) ?_
  conv => whnf
  refine sd_app (by intro x hx; simp at hx) (eL_uni _) (by simp only [maxLen, List.length_nil, List.length_map, cyc_len]; omega) ?_
  conv => whnf
  refine safe_intro (by kernel_rfl) ?_
  conv => whnf
  refine loop_introD (fun t => t == 3 || t == 5) (fun i : Nat => e1St o hs i) (fun i => i ≤ hs.length) (fun i => hs.length - i) 0 mixed tOk (by omega) ?_ ?_
  · unfold e1St
    rw [show (cyc o ++ (hs.take 0).flatMap cyc) = cyc o by simp]
    refine weak_dead 0 rfl ?_
    refine weak_l ?_ ?_ <;> repeat' (first | exact trivial | exact rfl | refine And.intro ?_ ?_)
  · intro i hi
    conv => whnf
    refine cond_d (fun hlt => ?_) (fun hge => ?_)
    · have hlt' : i < hs.length := by omega
      have hm := hh _ (List.getElem_mem hlt')
      have hst : eL (cyc o ++ (hs.take (i + 1)).flatMap cyc) = eL (cyc o ++ (hs.take i).flatMap cyc) ++ eL (cyc hs[i]) := by
        rw [List.take_succ_eq_append_getElem hlt', List.flatMap_append, ← List.append_assoc]
        unfold eL
        rw [List.map_append]
        simp
      have hlk : (eL (cyc o ++ (hs.take i).flatMap cyc)).length ≤ 900 := by
        unfold eL
        rw [List.length_map]
        exact e1_len hlo (fun h hx => (hh h (List.mem_of_mem_take hx)).2) (by simp; omega)
      have hl2 : (eL (cyc hs[i])).length ≤ 100 := by
        unfold eL
        rw [List.length_map, cyc_len]
        omega
      conv => whnf
      refine idx_intro (.l (pL hs[i])) (hQ_get hlt') (by omega) (hQ_uni _) ?_
      conv => whnf
      refine sd_d (by omega) ?_
      conv => whnf
      refine call_yield (fun t => t == 3 || t == 5) mixed tOk rfl rfl rfl ?_
      conv => whnf
      refine okc_go (fun t => t == 3 || t == 5) mixed tOk ?_
      conv => whnf
      refine callv_data (edges_c hs[i] (by omega)) ?_
      conv => whnf
      refine sd_app (eL_uni _) (eL_uni _) (by simp only [maxLen]; omega) ?_
      conv => whnf
      refine safe_intro (by kernel_rfl) ?_
      conv => whnf
      refine sd_d (by omega) ?_
      conv => whnf
      refine ⟨i + 1, by omega, by omega, ?_⟩
      unfold e1St
      rw [hst, Int.natCast_succ]
      refine weak_l ?_ ?_ <;> repeat' (first | exact trivial | exact rfl | refine And.intro ?_ ?_)
    · have : i = hs.length := by omega
      subst this
      rw [show hs.take hs.length = hs from List.take_length]
      conv => whnf
      refine ⟨?_, trivial⟩
      conv => whnf
end Go.Nv
end
section
namespace Go.Nv
open Go.Proofs Nw
set_option maxRecDepth 100000
set_option linter.unusedVariables false
set_option linter.unusedSimpArgs false
theorem rst_q {i off : Nat} {xs : List Rat} {K : List D → Prop} (v : Rat) (hi : i < xs.length) (ho : off = i * 3) (k : K (qL (xs.set i v))) : RstG 3 3 (qL xs) off (ratD v) K := by
  subst ho
  refine rst_intro _ ?_ rfl (qL_uni _) (by omega) k
  unfold setElem
  have h1 : i * 3 / 3 = i := by omega
  have h2 : i * 3 % 3 = 0 := by omega
  have hg : (qL xs)[i]? = some (ratD xs[i]) := by simp [hi]
  simp only [h1, h2, hg]
  rw [show (qL (xs.set i v)) = (qL xs).set i (ratD v) from List.map_set ..]
  rfl
def ssSt (b1 b2 b3 : B) (n : Nat) (ys : List Rat) (i : Nat) : St := ⟨fr 53 [(0, .own 1 0), (1, .d (i64 0)), (2, .d (i64 n)), (3, .d (.f 34 [])), (8, .d (i64 i))], [.dead, .row 0 27 3 40 (qL ys), b1, b2, b3]⟩
def ssSt2 (b1 b2 b3 : B) (n : Nat) (ys : List Rat) (i j : Nat) : St := ⟨fr 53 [(0, .own 1 0), (1, .d (i64 0)), (2, .d (i64 n)), (3, .d (.f 34 [])), (8, .d (i64 i)), (9, .d (i64 j))], [.dead, .row 0 27 3 40 (qL ys), b1, b2, b3]⟩
def SoN (l : List Rat) (n : Nat) : Prop := ∀ a b (ha : a < l.length) (hb : b < l.length), a < b → b < n → l[a] ≤ l[b]
structure InI (l : List Rat) (i j : Nat) : Prop where
  o : ∀ a b (ha : a < l.length) (hb : b < l.length), a < b → b ≤ i → a ≠ j → b ≠ j → l[a] ≤ l[b]
  n : ∀ b (hj : j < l.length) (hb : b < l.length), j < b → b ≤ i → l[j] ≤ l[b]
def swP (l : List Rat) (j : Nat) (h : j < l.length) (h0 : j - 1 < l.length) : List Rat := (l.set j l[j - 1]).set (j - 1) l[j]
theorem swP_len (l : List Rat) (j : Nat) (h : j < l.length) (h0 : j - 1 < l.length) : (swP l j h h0).length = l.length := by simp [swP]
theorem swP_get (l : List Rat) (j : Nat) (h : j < l.length) (h0 : j - 1 < l.length) (hj : 0 < j) (k : Nat) (hk : k < l.length) : (swP l j h h0)[k]'(by rw [swP_len]; exact hk) = if k = j - 1 then l[j] else if k = j then l[j - 1] else l[k] := by
  unfold swP
  rw [List.getElem_set]
  by_cases c : j - 1 = k
  · rw [if_pos c, if_pos c.symm]
  · rw [if_neg c, if_neg (fun h => c h.symm), List.getElem_set]
    by_cases d : j = k
    · rw [if_pos d, if_pos d.symm]
    · rw [if_neg d, if_neg (fun h => d h.symm)]
theorem InI.step {l : List Rat} {i j : Nat} (h : InI l i j) (hj : 0 < j) (hji : j ≤ i) (h1 : j < l.length) (h0 : j - 1 < l.length) (hlt : l[j] < l[j - 1]) : InI (swP l j h1 h0) i (j - 1) := by
  constructor
  · intro a b ha hb hab hbi ha1 hb1
    rw [swP_len] at ha hb
    rw [swP_get l j h1 h0 hj a ha, swP_get l j h1 h0 hj b hb, if_neg ha1, if_neg hb1]
    by_cases ca : a = j
    · rw [if_pos ca, if_neg (by omega)]
      exact h.o (j - 1) b h0 hb (by omega) hbi (by omega) (by omega)
    · rw [if_neg ca]
      by_cases cb : b = j
      · rw [if_pos cb]
        exact h.o a (j - 1) ha h0 (by omega) (by omega) ca (by omega)
      · rw [if_neg cb]
        exact h.o a b ha hb hab hbi ca cb
  · intro b hj' hb hlt' hbi
    rw [swP_len] at hb hj'
    rw [swP_get l j h1 h0 hj _ hj', swP_get l j h1 h0 hj b hb, if_pos rfl, if_neg (by omega)]
    by_cases cb : b = j
    · rw [if_pos cb]
      exact Rat.le_of_lt hlt
    · rw [if_neg cb]
      exact h.n b h1 hb (by omega) hbi
theorem InI.done {l : List Rat} {i j : Nat} (h : InI l i j) (hji : j ≤ i) (h1 : j < l.length) (hd : j = 0 ∨ ∃ h0 : j - 1 < l.length, l[j - 1] ≤ l[j]) : SoN l (i + 1) := by
  intro a b ha hb hab hbi
  by_cases ca : a = j
  · subst ca
    exact h.n b ha hb hab (by omega)
  · by_cases cb : b = j
    · subst cb
      rcases hd with hd | ⟨h0, hd⟩
      · omega
      · by_cases cc : a = b - 1
        · subst cc
          exact hd
        · exact Rat.le_trans (h.o a (b - 1) ha h0 (by omega) (by omega) ca (by omega)) hd
    · exact h.o a b ha hb hab (by omega) ca cb
theorem ins_ok (b1 b2 b3 : B) {xs : List Rat} (hx : ∀ x ∈ xs, Q x) (hlen : xs.length ≤ 12) {c : Code} (hc : Tryz.f264.body = some c) (K : Ex → St → Prop)
    (hK : ∀ env ys, ys.Perm xs → SoN ys ys.length → K .normal ⟨env, [.dead, .row 0 27 3 40 (qL ys), b1, b2, b3]⟩) :
    Ok Tryz.prog c ⟨fr 53 [(0, .own 1 0), (1, .d (i64 0)), (2, .d (i64 xs.length)), (3, .d (.f 34 []))], [.dead, .row 0 27 3 40 (qL xs), b1, b2, b3]⟩ K := by
  cases hc
  refine ok_go mixed tOk (mu := fun t => false) _ _ _ ?_
  refine sd_d (by decide) ?_
  conv => whnf
  refine loop_intro (fun t => false) (fun p : List Rat × Nat => ssSt b1 b2 b3 xs.length p.1 p.2) (fun p => p.1.Perm xs ∧ 1 ≤ p.2 ∧ (p.2 ≤ xs.length ∨ p.2 = 1) ∧ SoN p.1 p.2) (fun p => xs.length + 1 - p.2) (xs, 1) mixed tOk ⟨List.Perm.refl _, by simp, .inr rfl, fun a b ha hb hab h1 => by simp only at h1; omega⟩ ?_ ?_
  · refine weak_x ⟨eqBP_refl _, ⟨rfl, rfl, rfl, rfl, rfl⟩, eqBP_refl _, eqBP_refl _, eqBP_refl _, trivial⟩ ?_
    exact ⟨trivial, rfl, rfl, rfl, rfl, trivial⟩
  · rintro ⟨ys, i⟩ ⟨hp, hi1, hi2, hso⟩
    simp only at hp hi1 hi2 hso
    dsimp only
    have hyl := hp.length_eq
    conv => whnf
    refine cond_d (fun hlt => ?_) (fun hge => ?_)
    · have hlt' : i < xs.length := by simpa using hlt
      conv => whnf
      refine loop_intro (fun t => false) (fun p : List Rat × Nat => ssSt2 b1 b2 b3 xs.length p.1 i p.2) (fun p => p.1.Perm xs ∧ p.2 ≤ i ∧ InI p.1 i p.2) (fun p => p.2) (ys, i) mixed tOk ⟨hp, Nat.le_refl _, ⟨fun a b ha hb hab h1 h2 h3 => hso a b ha hb hab (by show b < i; omega), fun b hj hb h1 h2 => by simp only at h1 h2; omega⟩⟩ ?_ ?_
      · refine weak_x ⟨eqBP_refl _, ⟨rfl, rfl, rfl, rfl, rfl⟩, eqBP_refl _, eqBP_refl _, eqBP_refl _, trivial⟩ ?_
        exact ⟨trivial, rfl, rfl, rfl, rfl, rfl, trivial⟩
      · rintro ⟨zs, j⟩ ⟨hq, hj1, hin⟩
        simp only at hq hj1 hin
        dsimp only
        have hzl := hq.length_eq
        conv => whnf
        refine cond_d (fun c1 => ?_) (fun c1 => ?_)
        · have c1' : 0 < j := by omega
          have hjl : j < zs.length := by omega
          have hj0 : j - 1 < zs.length := by omega
          have qj := hx _ (hq.mem_iff.1 (List.getElem_mem hjl))
          have qj0 := hx _ (hq.mem_iff.1 (List.getElem_mem hj0))
          have e3 : ((j : Int) - 1).toNat = j - 1 := by omega
          conv => whnf
          refine sd_du (by rw [List.length_map]; omega) (qL_uni _) ?_
          conv => whnf
          refine rld_intro (i := j) (r := 0) _ _ (qL_get hjl) (by omega) (by omega) (qL_uni _) rfl ?_
          conv => whnf
          refine sd_d (by omega) ?_
          conv => whnf
          refine sd_du (by rw [List.length_map]; omega) (qL_uni _) ?_
          conv => whnf
          refine rld_intro (i := j - 1) (r := 0) _ _ (by have := qL_get hj0; exact this) (by omega) (by omega) (qL_uni _) rfl ?_
          conv => whnf
          refine callv_data (cmp_q qj qj0) ?_
          conv => whnf
          refine safe_intro (by kernel_rfl) ?_
          conv => whnf
          refine cond_d (fun c2 => ?_) (fun c2 => ?_)
          · have c2' : zs[j] < zs[j - 1] := cmpI_neg.1 c2
            conv => whnf
            refine sd_d (by omega) ?_
            conv => whnf
            refine sd_d (by omega) ?_
            conv => whnf
            refine sd_du (by rw [List.length_map]; omega) (qL_uni _) ?_
            conv => whnf
            refine rld_intro (i := j - 1) (r := 0) _ _ (by have := qL_get hj0; exact this) (by omega) (by omega) (qL_uni _) rfl ?_
            conv => whnf
            refine sd_du (by rw [List.length_map]; omega) (qL_uni _) ?_
            conv => whnf
            refine rld_intro (i := j) (r := 0) _ _ (qL_get hjl) (by omega) (by omega) (qL_uni _) rfl ?_
            conv => whnf
            refine sd_du (by rw [List.length_map]; omega) (qL_uni _) ?_
            conv => whnf
            refine rst_q (i := j) zs[j - 1] hjl (by omega) ?_
            conv => whnf
            refine sd_du (by rw [List.length_map, List.length_set]; omega) (qL_uni _) ?_
            conv => whnf
            refine rst_q (i := j - 1) zs[j] (by rw [List.length_set]; omega) (by omega) ?_
            conv => whnf
            refine safe_intro (by kernel_rfl) ?_
            conv => whnf
            refine sd_d (by omega) ?_
            conv => whnf
            refine ⟨(swP zs j hjl hj0, j - 1), ⟨(List.set_set_perm hjl hj0).trans hq, by show j - 1 ≤ i; omega, hin.step c1' hj1 hjl hj0 c2'⟩, by show j - 1 < j; omega, ?_⟩
            rw [show ((j : Int) - 1) = ((j - 1 : Nat) : Int) by omega]
            exact weak_x ⟨eqBP_refl _, ⟨rfl, rfl, rfl, rfl, rfl⟩, eqBP_refl _, eqBP_refl _, eqBP_refl _, trivial⟩ ⟨trivial, rfl, rfl, rfl, rfl, rfl, trivial⟩
          · have c2' : zs[j - 1] ≤ zs[j] := by
              have := fun h => c2 (cmpI_neg.2 h)
              grind
            have hd := hin.done hj1 hjl (.inr ⟨hj0, c2'⟩)
            conv => whnf
            refine sd_d (by omega) ?_
            conv => whnf
            refine ⟨(zs, i + 1), ⟨hq, by show 1 ≤ i + 1; omega, .inl (by show i + 1 ≤ xs.length; omega), hd⟩, by show xs.length + 1 - (i + 1) < xs.length + 1 - i; omega, ?_⟩
            exact weak_x ⟨eqBP_refl _, ⟨rfl, rfl, rfl, rfl, rfl⟩, eqBP_refl _, eqBP_refl _, eqBP_refl _, trivial⟩ ⟨trivial, rfl, rfl, rfl, rfl, trivial⟩
        · have hj : j = 0 := by omega
          have hd := hin.done hj1 (by omega) (.inl hj)
          conv => whnf
          refine safe_intro (by kernel_rfl) ?_
          conv => whnf
          refine sd_d (by omega) ?_
          conv => whnf
          refine ⟨(zs, i + 1), ⟨hq, by show 1 ≤ i + 1; omega, .inl (by show i + 1 ≤ xs.length; omega), hd⟩, by show xs.length + 1 - (i + 1) < xs.length + 1 - i; omega, ?_⟩
          exact weak_x ⟨eqBP_refl _, ⟨rfl, rfl, rfl, rfl, rfl⟩, eqBP_refl _, eqBP_refl _, eqBP_refl _, trivial⟩ ⟨trivial, rfl, rfl, rfl, rfl, trivial⟩
    · conv => whnf
      refine hK _ ys hp fun a b ha hb hab hbl => hso a b ha hb hab ?_
      omega
end Go.Nv
end
section
namespace Go.Nv
open Go.Proofs Nw
set_option maxRecDepth 100000
set_option linter.unusedVariables false
set_option linter.unusedSimpArgs false
theorem pdq_ok (b1 b2 : B) {xs : List Rat} {m : Int} (hx : ∀ x ∈ xs, Q x) (hlen : xs.length ≤ 12) {c : Code} (hc : Tryz.f188.body = some c) (K : Ex → St → Prop)
    (hK : ∀ env ys, ys.Perm xs → SoN ys ys.length → K .ret ⟨env, [.dead, .row 0 27 3 40 (qL ys), b1, b2, .dead]⟩) :
    Ok Tryz.prog c ⟨fr 148 [(0, .own 1 0), (1, .d (i64 0)), (2, .d (i64 xs.length)), (3, .d (i64 m)), (4, .d (.f 34 []))], [.dead, .row 0 27 3 40 (qL xs), b1, b2]⟩ K := by
  cases hc
  refine ok_go mixed tOk (mu := fun t => false) _ _ _ ?_
  refine unroll 1 (fun t => false) mixed tOk ?_
  conv => whnf
  refine sd_d (by omega) ?_
  conv => whnf
  refine cond_dt (by omega) ?_
  conv => whnf
  refine call_inl_ok mixed tOk (g := 264) (cap := []) (fn := Tryz.f264) (c := _) rfl rfl rfl rfl ?_
  refine ins_ok b1 b2 (.ghost _) hx hlen rfl _ (fun env ys h1 h2 => ?_)
  conv => whnf
  exact hK _ ys h1 h2
theorem sort_call {E : List S} {x : Tmp} {dst : Option Tmp} {K : St → Prop} {xs : List Rat} (hx : ∀ x ∈ xs, Q x) (hlen : xs.length ≤ 12) (h1 : lk E x = .own 1 0)
    (hK : ∀ ys, ys.Perm xs → SoN ys ys.length → frc ⟨putx E dst (tupS []), [.dead, .row 0 27 3 40 (qL ys), .dead, .dead, .dead]⟩ K) :
    CallK Tryz.prog (.func 104) [.tmp x, .func 34] dst ⟨E, [.dead, .row 0 27 3 40 (qL xs)]⟩ K := by
  have hll : (qL xs).length = xs.length := by simp
  refine call_inl_ok mixed tOk (g := 104) (cap := []) (fn := Tryz.f104) (c := _) rfl rfl rfl rfl ?_
  have e : mapX (evx (⟨E, [.dead, .row 0 27 3 40 (qL xs)]⟩ : St).env) [Operand.tmp x, .func 34] = [.own 1 0, .d (.f 34 [])] := by
    simp [mapX, evx, h1]
  rw [e]
  refine ok_go mixed tOk (mu := fun t => false) _ _ _ ?_
  conv => whnf
  have hl := len_small xs.length (by omega)
  rw [show (xs.length : Int) = ((qL xs).length : Int) % 18446744073709551616 by omega] at hl
  refine call_data rfl rfl hl ?_
  conv => whnf
  refine call_inl_ok mixed tOk (g := 188) (cap := []) (fn := Tryz.f188) (c := _) rfl rfl rfl rfl ?_
  rw [hll]
  refine pdq_ok (.ghost E) (.ghost _) hx hlen rfl _ (fun env ys h3 h4 => ?_)
  conv => whnf
  have h5 := hK ys h3 h4
  rw [frc_eq] at h5
  rw [frcL_eq, frcL_eq]
  exact h5
end Go.Nv
end
section
namespace Go.Nv
open Go.Proofs Nw
set_option maxRecDepth 100000
set_option linter.unusedVariables false
set_option linter.unusedSimpArgs false
theorem cloneQ_c (l : List P2) (hl : l.length ≤ 1000000) : Fun Tryz.prog 192 [.l (pL l)] [.l (pL l)] := funO_fun (cloneR_c (pL l) (pL_uni l) (by simpa using hl)) (pL_uni l) (by decide)
structure Iv (n : Nat) (l : List P2) : Prop where
  b : ∀ p ∈ l, BP n p
  n : n < 1000000
  len : l.length ≤ 12
  lt : ∀ i (h : i < l.length), l[i].1 < l[i].2
  so : ∀ i (h : i + 1 < l.length), l[i].1 ≤ l[i + 1].1
theorem sp_not {n : Nat} {l : List P2} (h : Iv n l) {i : Nat} (hi : i < l.length) : Fun Tryz.prog 125 [pD l[i]] [.v (.bool false)] := by
  have bi := h.b _ (List.getElem_mem hi)
  have := h.n
  have he := spempty_c (bi.q (by omega))
  rwa [show decide (0 ≤ cmpI l[i].1 l[i].2) = false from decide_eq_false (by have := cmpI_neg.2 (h.lt i hi); omega)] at he
theorem idxf_c {n : Nat} {l : List P2} (h : Iv n l) : Fun Tryz.prog 274 [.l (pL l), .f 125 []] [i64 (-1)] := by
  have hll : (pL l).length = l.length := by simp
  have hlen := h.len
  refine fun_of_go (fun t => false) mixed tOk Tryz.func274 rfl rfl ?_
  conv => whnf
  refine loop_intro (fun t => false) (fun i : Nat => ⟨fr 19 [(0, .d (.l (pL l))), (1, .d (.f 125 [])), (7, .d (i64 (pL l).length)), (8, .d (i64 i))], []⟩) (fun i => i ≤ l.length) (fun i => l.length - i) 0 mixed tOk (by omega) ?_ ?_
  · refine weak_r ?_ ?_ <;> repeat' (first | exact trivial | exact rfl | refine And.intro ?_ ?_)
  · intro i hi
    conv => whnf
    refine cond_d (fun hlt => ?_) (fun hge => ?_)
    · have hlt' : i < l.length := by omega
      conv => whnf
      refine idx_intro (pD l[i]) (pL_get hlt') (by omega) (pL_uni l) ?_
      conv => whnf
      refine call_data rfl rfl (sp_not h hlt') ?_
      conv => whnf
      refine sd_d (by omega) ?_
      conv => whnf
      refine ⟨i + 1, by omega, by omega, ?_⟩
      rw [Int.natCast_succ]
      refine weak_r ?_ ?_ <;> repeat' (first | exact trivial | exact rfl | refine And.intro ?_ ?_)
    · conv => whnf
      refine ⟨?_, trivial⟩
      conv => whnf
theorem delf_c {n : Nat} {l : List P2} (h : Iv n l) : Fun Tryz.prog 191 [.l (pL l), .f 125 []] [.l (pL l)] := by
  refine fun_of_go (fun t => t == 7) mixed tOk Tryz.func191 rfl rfl ?_
  conv => whnf
  refine call_data rfl rfl (idxf_c h) ?_
  conv => whnf
  refine cond_dt rfl ?_
  conv => whnf
  refine ⟨?_, trivial⟩
  conv => whnf
theorem icmp_c {a b : P2} {n : Nat} (ha : BP n a) (hb : BP n b) (hn : n < 1000000) : Fun Tryz.prog 194 [pD a, pD b] [i64 (cmpI a.1 b.1)] := by
  have q1 := ha.q (by omega)
  have q2 := hb.q (by omega)
  refine fun_of_go (fun t => false) mixed tOk Tryz.func194 rfl rfl ?_
  conv => whnf
  refine call_data rfl rfl (cmp_q q1.1 q2.1) ?_
  conv => whnf
  refine ⟨?_, trivial⟩
  conv => whnf
theorem insR_c {n : Nat} {l : List P2} (h : Iv n l) : Fun Tryz.prog 326 [.l (pL l), i64 0, i64 l.length, .f 194 []] [] := by
  have hll : (pL l).length = l.length := by simp
  have hlen := h.len
  refine fun_of_go (fun t => false) mixed tOk Tryz.func326 rfl rfl ?_
  conv => whnf
  refine sd_d (by omega) ?_
  conv => whnf
  refine loop_intro (fun t => false) (fun i : Nat => ⟨fr 53 [(0, .d (.l (pL l))), (1, .d (i64 0)), (2, .d (i64 l.length)), (3, .d (.f 194 [])), (8, .d (i64 (i + 1)))], []⟩) (fun i => i ≤ l.length) (fun i => l.length + 1 - i) 0 mixed tOk (by omega) ?_ ?_
  · refine weak_r ?_ ?_ <;> repeat' (first | exact trivial | exact rfl | refine And.intro ?_ ?_)
  · intro i hi
    conv => whnf
    refine cond_d (fun hlt => ?_) (fun hge => ?_)
    · have h1 : i + 1 < l.length := by omega
      have h0 : i < l.length := by omega
      have m0 := h.b _ (List.getElem_mem h0)
      have m1 := h.b _ (List.getElem_mem h1)
      have hc : ¬ cmpI l[i + 1].1 l[i].1 < 0 := by
        have := h.so i h1
        intro hx
        have := cmpI_neg.1 hx
        grind
      have e1 : ((i : Int) + 1) = ((i + 1 : Nat) : Int) := rfl
      conv => whnf
      refine unroll 2 (fun t => false) mixed tOk ?_
      conv => whnf
      refine cond_dt (by omega) ?_
      conv => whnf
      refine idx_intro (pD l[i + 1]) (by rw [e1]; exact pL_get h1) (by omega) (pL_uni _) ?_
      conv => whnf
      refine sd_d (by omega) ?_
      conv => whnf
      have e3 : ((i : Int) + 1 - 1) = ((i : Nat) : Int) := by omega
      refine idx_intro (pD l[i]) (by rw [e3]; exact pL_get h0) (by omega) (pL_uni _) ?_
      conv => whnf
      refine callv_data (icmp_c m1 m0 h.n) ?_
      conv => whnf
      refine safe_intro (by kernel_rfl) ?_
      conv => whnf
      refine cond_df (by omega) ?_
      conv => whnf
      refine sd_d (by omega) ?_
      conv => whnf
      refine ⟨i + 1, by omega, by omega, ?_⟩
      rw [Int.natCast_succ]
      refine weak_r ?_ ?_ <;> repeat' (first | exact trivial | exact rfl | refine And.intro ?_ ?_)
    · conv => whnf
      exact trivial
theorem stableR_c {n : Nat} {l : List P2} (h : Iv n l) : Fun Tryz.prog 275 [.l (pL l), i64 l.length, .f 194 []] [] := by
  have hi := insR_c h
  have hlen := h.len
  refine fun_of_go (fun t => false) mixed tOk Tryz.func275 rfl rfl ?_
  conv => whnf
  refine unroll 1 (fun t => false) mixed tOk ?_
  conv => whnf
  refine cond_df (by omega) ?_
  conv => whnf
  refine call_data rfl rfl hi ?_
  conv => whnf
  refine unroll 1 (fun t => false) mixed tOk ?_
  conv => whnf
  refine cond_df (by omega) ?_
  conv => whnf
  exact trivial
theorem sortR_c {n : Nat} {l : List P2} (h : Iv n l) : Fun Tryz.prog 193 [.l (pL l), .f 194 []] [] := by
  have hi := stableR_c h
  have hll : (pL l).length = l.length := by simp
  rw [← hll] at hi
  refine fun_of_go (fun t => false) mixed tOk Tryz.func193 rfl rfl ?_
  conv => whnf
  refine call_data rfl rfl hi ?_
  conv => whnf
  exact trivial
end Go.Nv
end
section
namespace Go.Nv
open Go.Proofs Nw
set_option maxRecDepth 100000
set_option linter.unusedVariables false
set_option linter.unusedSimpArgs false
def hasB (l : List P2) (x : Rat) : Bool := l.any fun p => decide (p.1 ≤ x ∧ x < p.2)
theorem SpOk.gap {l : List P2} (h : SpOk l) (i : Nat) : ∀ j (hj : j < l.length) (hij : i < j), (l[i]'(by omega)).2 < l[j].1 := by
  intro j
  induction j with
  | zero => intro _ h; omega
  | succ j ih =>
    intro hj hij
    have h1 := (h j (by omega)).2 hj
    by_cases c : i = j
    · subst c; exact h1
    · have h2 := ih (by omega) (by omega)
      have h3 := (h j (by omega)).1
      grind
theorem SpOk.mono {l : List P2} (h : SpOk l) {i j : Nat} (hj : j < l.length) (hij : i ≤ j) : (l[i]'(by omega)).2 ≤ l[j].2 := by
  by_cases c : i = j
  · subst c; exact Rat.le_refl
  · have h1 := h.gap i j hj (by omega)
    have h2 := (h j hj).1
    grind
theorem SpOk.cut {l : List P2} (h : SpOk l) (x : Rat) : ∃ k, k ≤ l.length ∧ (∀ j (hj : j < l.length), j < k → l[j].2 ≤ x) ∧ ∀ j (hj : j < l.length), k ≤ j → x < l[j].2 := by
  have key : ∀ m, m ≤ l.length → ∃ k, k ≤ m ∧ (∀ j (hj : j < l.length), j < k → l[j].2 ≤ x) ∧ ∀ j (hj : j < l.length), k ≤ j → j < m → x < l[j].2 := by
    intro m
    induction m with
    | zero => intro _; exact ⟨0, Nat.le_refl _, fun j _ h => by omega, fun j _ _ h => by omega⟩
    | succ m ih =>
      intro hm
      obtain ⟨k, h1, h2, h3⟩ := ih (by omega)
      by_cases c : k = m
      · by_cases d : (l[m]'(by omega)).2 ≤ x
        · refine ⟨m + 1, Nat.le_refl _, fun j hj hjm => ?_, fun j hj h4 h5 => by omega⟩
          by_cases e : j = m
          · subst e; exact d
          · exact h2 j hj (by omega)
        · refine ⟨k, by omega, h2, fun j hj h4 h5 => ?_⟩
          have : j = m := by omega
          subst this
          grind
      · refine ⟨k, by omega, h2, fun j hj h4 h5 => ?_⟩
        have h6 := h3 k (by omega) (Nat.le_refl _) (by omega)
        have h7 := h.mono (i := k) (j := j) hj h4
        grind
  obtain ⟨k, h1, h2, h3⟩ := key l.length (Nat.le_refl _)
  exact ⟨k, h1, h2, fun j hj h => h3 j hj h hj⟩
theorem hasB_cut {l : List P2} (h : SpOk l) {x : Rat} {k : Nat} (h1 : ∀ j (hj : j < l.length), j < k → l[j].2 ≤ x) (h2 : ∀ j (hj : j < l.length), k ≤ j → x < l[j].2) : hasB l x = decide (∃ hk : k < l.length, l[k].1 ≤ x) := by
  unfold hasB
  rw [Bool.eq_iff_iff, List.any_eq_true, decide_eq_true_iff]
  constructor
  · rintro ⟨p, hp, hx⟩
    obtain ⟨j, hj, rfl⟩ := List.getElem_of_mem hp
    have hx := of_decide_eq_true hx
    have hkj : k ≤ j := by
      refine Decidable.byContradiction fun hc => ?_
      have := h1 j hj (by omega)
      grind
    by_cases e : k = j
    · subst e; exact ⟨hj, hx.1⟩
    · exfalso
      have h3 := h.gap k j hj (by omega)
      have h4 := h2 k (by omega) (Nat.le_refl _)
      grind
  · rintro ⟨hk, hx⟩
    exact ⟨l[k], List.getElem_mem hk, decide_eq_true ⟨hx, h2 k hk (Nat.le_refl _)⟩⟩
theorem has_c {l : List P2} {n : Nat} {x : Rat} (hl : ∀ p ∈ l, BP n p) (hs : SpOk l) (hx : Q x) (hn : n < 1000000) (hlen : l.length ≤ 1000) : Fun Tryz.prog 121 [.l (pL l), ratD x] [.v (.bool (hasB l x))] := by
  have hll : (pL l).length = l.length := by simp
  obtain ⟨k, h0, h1, h2⟩ := hs.cut x
  have hq : ∀ p ∈ l, QP p := fun p hp => (hl p hp).q (by omega)
  have hc := hasB_cut hs h1 h2
  refine fun_of_go (fun t => false) mixed tOk Tryz.func121 rfl rfl ?_
  conv => whnf
  refine call_data rfl rfl (bsearch_c hq hx hlen h0 h1 h2) ?_
  conv => whnf
  refine cond_d (fun c1 => ?_) (fun c1 => ?_)
  · have hk : k < l.length := by omega
    have bk := hq _ (List.getElem_mem hk)
    conv => whnf
    refine idx_intro (pD l[k]) (pL_get hk) (by omega) (pL_uni l) ?_
    conv => whnf
    refine callv_data (cmp_q bk.1 hx) ?_
    conv => whnf
    refine safe_intro (by kernel_rfl) ?_
    conv => whnf
    refine ⟨?_, trivial⟩
    conv => whnf
    rw [hc, bz_eq]
    by_cases h3 : l[k].1 ≤ x
    · rw [decide_eq_true (show ∃ hk : k < l.length, l[k].1 ≤ x from ⟨hk, h3⟩), decide_eq_true (cmpI_le.2 h3)]
    · rw [decide_eq_false (show ¬ ∃ hk : k < l.length, l[k].1 ≤ x from fun h => h3 h.2), decide_eq_false (fun h => h3 (cmpI_le.1 h))]
  · rw [hc, decide_eq_false (show ¬ ∃ hk : k < l.length, l[k].1 ≤ x from fun h => c1 (by have := h.1; omega))]
    conv => whnf
    refine safe_intro (by kernel_rfl) ?_
    conv => whnf
    refine ⟨?_, trivial⟩
    conv => whnf
theorem Has_c {l : List P2} {n : Nat} {x : Rat} (hl : ∀ p ∈ l, BP n p) (hs : SpOk l) (hx : Q x) (hn : n < 1000000) (hlen : l.length ≤ 1000) : Fun Tryz.prog 50 [.l (pL l), ratD x] [.v (.bool (hasB l x)), i64 0] := by
  refine fun_of_go (fun t => false) mixed tOk Tryz.func50 rfl rfl ?_
  conv => whnf
  refine call_data rfl rfl (spcheck_c hl hs hn hlen) ?_
  conv => whnf
  refine cond_bf (by decide) ?_
  conv => whnf
  refine call_data rfl rfl (has_c hl hs hx hn hlen) ?_
  conv => whnf
  refine ⟨?_, ?_, trivial⟩
  · conv => whnf
  · conv => whnf
theorem chunk_c (xs : List Rat) : Fun Tryz.prog 105 [.l (qL xs), i64 2] [.f 190 [.p 0 [.l (qL xs)], .p 0 [i64 2]]] := by
  refine fun_of_go (fun t => false) mixed tOk Tryz.func105 rfl rfl ?_
  conv => whnf
  refine cond_df (by omega) ?_
  conv => whnf
  refine ⟨?_, trivial⟩
  conv => whnf
  rfl
end Go.Nv
end
