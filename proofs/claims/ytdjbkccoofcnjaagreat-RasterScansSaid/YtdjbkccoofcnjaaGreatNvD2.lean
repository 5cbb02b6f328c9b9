import Derived.Test.YtdjbkccoofcnjaaGreatNvD1
set_option linter.all false
set_option linter.unusedVariables false
set_option linter.unusedSimpArgs false
section
namespace Go.Nv
open Go.Proofs Nw
set_option maxRecDepth 100000
set_option linter.unusedVariables false
set_option linter.unusedSimpArgs false
def ix (l : List P2) (k : Nat) : P2 := l.getD (k % l.length) (0, 0)
theorem ix_lt {l : List P2} {k : Nat} (h : k < l.length) : ix l k = l[k] := by
  unfold ix; rw [Nat.mod_eq_of_lt h, List.getD_eq_getElem?_getD, List.getElem?_eq_getElem h]; rfl
theorem ix_mod {l : List P2} {k : Nat} (h : 0 < l.length) : ix l k = l[k % l.length]'(Nat.mod_lt _ h) := by
  unfold ix; rw [List.getD_eq_getElem?_getD, List.getElem?_eq_getElem (Nat.mod_lt _ h)]; rfl
theorem ix_mem {l : List P2} {k : Nat} (h : 0 < l.length) : ix l k ∈ l := by rw [ix_mod h]; exact List.getElem_mem _
theorem ix_get {l : List P2} {k : Nat} (h : 0 < l.length) : (pL l)[(Int.tmod ((k : Nat) : Int) ((pL l).length : Int)).toNat]? = some (pD (ix l k)) := by
  rw [pL_len, tmod_nat, Int.toNat_natCast, List.getElem?_map, List.getElem?_eq_getElem (Nat.mod_lt _ h), ix_mod h]; rfl
theorem ix_at {l : List P2} {i : Nat} (h : i < l.length) : (pL l)[(i : Int).toNat]? = some (pD (ix l i)) := by
  rw [ix_lt h]; exact pL_get h
def flB (l : List P2) (i : Nat) : Bool := decide (orI (ix l (i + l.length - 1)) (ix l i) (ix l (i + 1)) = 0)
theorem flat_c (l : List P2) {n : Nat} (hl : ∀ p ∈ l, BP n p) (hn : n < 10000000) (hlen : l.length ≤ 100000) : Fun Tryz.prog 205 [.l (pL l)] [i64 (fstI (flB l) (List.range l.length))] := by
  have hll : (pL l).length = l.length := by simp
  refine fun_of_go (fun t => t == 5) mixed tOk Tryz.func205 rfl rfl ?_
  conv => whnf
  refine loop_intro (fun t => t == 5) (fun i : Nat => ⟨fr 36 [(0, .d (.l (pL l))), (3, .d (i64 (pL l).length)), (8, .d (.l (pL l))), (9, .d (i64 (pL l).length)), (10, .d (i64 i))], []⟩) (fun i => i ≤ l.length ∧ ∀ j, j < i → flB l j = false) (fun i => l.length - i) 0 mixed tOk ⟨by omega, fun j hj => by omega⟩ ?_ ?_
  · refine weak_r ?_ ?_ <;> repeat' (first | exact trivial | exact rfl | refine And.intro ?_ ?_)
  · rintro i ⟨hi, hno⟩
    conv => whnf
    refine cond_d (fun hlt => ?_) (fun hge => ?_)
    · have hlt' : i < l.length := by omega
      have h0 : 0 < l.length := by omega
      have e1 : ((i : Int) + ((pL l).length : Int) - 1) = ((i + l.length - 1 : Nat) : Int) := by omega
      have e2 : ((i : Int) + 1) = ((i + 1 : Nat) : Int) := rfl
      conv => whnf
      refine idx_intro (pD (ix l i)) (ix_at hlt') (by omega) (pL_uni l) ?_
      conv => whnf
      refine sd_d (by omega) ?_
      conv => whnf
      refine sd_d (by omega) ?_
      conv => whnf
      refine sd_d (by omega) ?_
      conv => whnf
      refine idx_intro (pD (ix l (i + l.length - 1))) (by rw [e1]; exact ix_get h0) (by rw [e1, pL_len, tmod_nat]; omega) (pL_uni l) ?_
      conv => whnf
      refine sd_d (by omega) ?_
      conv => whnf
      refine sd_d (by omega) ?_
      conv => whnf
      refine idx_intro (pD (ix l (i + 1))) (by rw [e2]; exact ix_get h0) (by rw [e2, pL_len, tmod_nat]; omega) (pL_uni l) ?_
      conv => whnf
      have m1 := hl _ (ix_mem h0 (k := i + l.length - 1))
      have m2 := hl _ (ix_mem h0 (k := i))
      have m3 := hl _ (ix_mem h0 (k := i + 1))
      refine callv_data (orient_c m1.1 m1.2 m2.1 m2.2 m3.1 m3.2 (by omega)) ?_
      conv => whnf
      refine safe_intro (by kernel_rfl) ?_
      conv => whnf
      refine cond_e (fun h1 => ?_) (fun h1 => ?_)
      · have e : fstI (flB l) (List.range l.length) = i := fstI_at (by simpa using hlt') (fun j hj => by simpa using hno j hj) (by simp [flB]; exact h1)
        rw [e]
        conv => whnf
        exact ⟨rfl, trivial⟩
      · conv => whnf
        refine sd_d (by omega) ?_
        conv => whnf
        refine ⟨i + 1, ⟨by omega, fun j hj => ?_⟩, by omega, ?_⟩
        · by_cases hji : j = i
          · subst hji; exact decide_eq_false h1
          · exact hno j (by omega)
        rw [Int.natCast_succ]
        refine weak_dead 0 rfl ?_
        refine weak_r ?_ ?_ <;> repeat' (first | exact trivial | exact rfl | refine And.intro ?_ ?_)
    · have : i = l.length := by omega
      subst this
      rw [fstI_no (fun j hj => by simpa using hno j (by simpa using hj))]
      conv => whnf
      exact ⟨rfl, trivial⟩
def kf (l : List P2) : Nat → Nat
  | 0 => 0
  | i + 1 => if cmP (ix l i) (ix l (kf l i)) < 0 then i else kf l i
theorem kf_le (l : List P2) : ∀ i, kf l i ≤ i
  | 0 => Nat.le_refl _
  | i + 1 => by
    unfold kf; split
    · omega
    · have := kf_le l i; omega
theorem first_c (l : List P2) {n : Nat} (hl : ∀ p ∈ l, BP n p) (hn : n < 10000000) (hlen : l.length ≤ 100000) : Fun Tryz.prog 207 [.l (pL l)] [i64 (kf l l.length)] := by
  have hll : (pL l).length = l.length := by simp
  refine fun_of_go (fun t => t == 5) mixed tOk Tryz.func207 rfl rfl ?_
  conv => whnf
  refine loop_intro (fun t => t == 5) (fun i : Nat => ⟨fr 23 [(0, .d (.l (pL l))), (3, .d (i64 (kf l i))), (6, .d (.l (pL l))), (7, .d (i64 (pL l).length)), (8, .d (i64 i))], []⟩) (fun i => i ≤ l.length) (fun i => l.length - i) 0 mixed tOk (by omega) ?_ ?_
  · refine weak_r ?_ ?_ <;> repeat' (first | exact trivial | exact rfl | refine And.intro ?_ ?_)
  · intro i hi
    conv => whnf
    refine cond_d (fun hlt => ?_) (fun hge => ?_)
    · have hlt' : i < l.length := by omega
      have h0 : 0 < l.length := by omega
      have hk := kf_le l i
      have m1 := (hl _ (ix_mem h0 (k := i))).q (by omega)
      have m2 := (hl _ (ix_mem h0 (k := kf l i))).q (by omega)
      conv => whnf
      refine idx_intro (pD (ix l i)) (ix_at hlt') (by omega) (pL_uni l) ?_
      conv => whnf
      refine idx_intro (pD (ix l (kf l i))) (ix_at (by omega)) (by omega) (pL_uni l) ?_
      conv => whnf
      refine callv_data (vcmp_c m1.1 m1.2 m2.1 m2.2) ?_
      conv => whnf
      refine safe_intro (by kernel_rfl) ?_
      conv => whnf
      refine cond_d (fun h1 => ?_) (fun h1 => ?_)
      · have e : kf l (i + 1) = i := by unfold kf; rw [if_pos h1]
        conv => whnf
        refine sd_d (by omega) ?_
        conv => whnf
        refine ⟨i + 1, by omega, by omega, ?_⟩
        rw [e, Int.natCast_succ]
        refine weak_dead 0 rfl ?_
        refine weak_r ?_ ?_ <;> repeat' (first | exact trivial | exact rfl | refine And.intro ?_ ?_)
      · have e : kf l (i + 1) = kf l i := by conv => lhs; unfold kf; rw [if_neg h1]
        conv => whnf
        refine sd_d (by omega) ?_
        conv => whnf
        refine ⟨i + 1, by omega, by omega, ?_⟩
        rw [e, Int.natCast_succ]
        refine weak_dead 0 rfl ?_
        refine weak_r ?_ ?_ <;> repeat' (first | exact trivial | exact rfl | refine And.intro ?_ ?_)
    · have : i = l.length := by omega
      subst this
      conv => whnf
      exact ⟨rfl, trivial⟩
end Go.Nv
end
section
namespace Go.Nv
open Go.Proofs Nw
set_option maxRecDepth 100000
set_option linter.unusedVariables false
set_option linter.unusedSimpArgs false
def ed (l : List P2) (i : Nat) : P2 × P2 := (ix l i, ix l (i + 1))
theorem cyc_at {l : List P2} {i : Nat} (h : i < l.length) : (eL (cyc l))[(i : Int).toNat]? = some (sD (ed l i).1 (ed l i).2) := by
  rw [Int.toNat_natCast, List.getElem?_map, List.getElem?_eq_getElem (by rw [cyc_len]; exact h), cyc_get h]
  unfold ed
  rw [ix_lt h, ix_mod (show 0 < l.length by omega)]; rfl
def xB (l : List P2) (i k : Nat) : Bool := decide (i + 2 ≤ k) && (!(decide (i = 0) && decide (k = l.length - 1)) && mtB (ed l i).1 (ed l i).2 (ed l k).1 (ed l k).2)
@[irreducible] def crB (l : List P2) : Bool := (List.range l.length).any fun i => (List.range l.length).any fun k => xB l i k
theorem crB_t {l : List P2} {i k : Nat} (h1 : i < l.length) (h2 : k < l.length) (h : xB l i k = true) : crB l = true := by
  unfold crB
  exact List.any_eq_true.2 ⟨i, by simpa using h1, List.any_eq_true.2 ⟨k, by simpa using h2, h⟩⟩
theorem crB_f {l : List P2} (h : ∀ i k, i < l.length → k < l.length → xB l i k = false) : crB l = false := by
  unfold crB
  rw [List.any_eq_false]; intro i hi
  rw [Bool.not_eq_true, List.any_eq_false]; intro k hk
  rw [h i k (by simpa using hi) (by simpa using hk)]; simp
def crSt (l : List P2) (i : Nat) : St := ⟨fr 49 [(3, .d (.l (eL (cyc l)))), (4, .d (i64 (eL (cyc l)).length)), (15, .d (i64 (eL (cyc l)).length)), (16, .d (i64 i))], []⟩
def crSt2 (l : List P2) (i k : Nat) : St := ⟨fr 49 [(3, .d (.l (eL (cyc l)))), (4, .d (i64 (eL (cyc l)).length)), (5, .d (i64 i)), (6, .d (i64 k)), (15, .d (i64 (eL (cyc l)).length)), (16, .d (i64 i))], []⟩
theorem ed_bp {l : List P2} {n : Nat} (hl : ∀ p ∈ l, BP n p) (h : 0 < l.length) (i : Nat) : BP n (ed l i).1 ∧ BP n (ed l i).2 := ⟨hl _ (ix_mem h), hl _ (ix_mem h)⟩
theorem crossing_c (l : List P2) {n : Nat} (hl : ∀ p ∈ l, BP n p) (hn : n < 10000000) (hlen : l.length ≤ 100000) : Fun Tryz.prog 206 [.l (pL l)] [.v (.bool (crB l))] := by
  have hll : (eL (cyc l)).length = l.length := by simp [cyc_len]
  refine fun_of_go (fun t => t == 7) mixed tOk Tryz.func206 rfl rfl ?_
  conv => whnf
  refine call_data rfl rfl (edges_c l hlen) ?_
  conv => whnf
  refine loop_intro (fun t => t == 7) (fun i : Nat => crSt l i) (fun i => i ≤ l.length ∧ ∀ j k, j < i → k < l.length → xB l j k = false) (fun i => l.length - i) 0 mixed tOk ⟨by omega, fun j k hj => by omega⟩ ?_ ?_
  · refine weak_r ?_ ?_ <;> repeat' (first | exact trivial | exact rfl | refine And.intro ?_ ?_)
  · rintro i ⟨hi, hno⟩
    conv => whnf
    refine cond_d (fun hlt => ?_) (fun hge => ?_)
    · have hlt' : i < l.length := by omega
      have h0 : 0 < l.length := by omega
      conv => whnf
      refine sd_d (by omega) ?_
      conv => whnf
      refine loop_intro (fun t => t == 7) (fun k : Nat => crSt2 l i k) (fun k => i + 2 ≤ k ∧ ∀ j, j < k → j < l.length → xB l i j = false) (fun k => l.length - k) (i + 2) mixed tOk ⟨by omega, fun j hj _ => ?_⟩ ?_ ?_
      · unfold xB; rw [decide_eq_false (by omega)]; rfl
      · refine weak_r ?_ ?_ <;> repeat' (first | exact trivial | exact rfl | refine And.intro ?_ ?_)
      · rintro k ⟨hk, hnok⟩
        have step : k < l.length → xB l i k = false → ∀ j, j < k + 1 → j < l.length → xB l i j = false := fun _ h j hj hjl => by
          by_cases hjk : j = k
          · subst hjk; exact h
          · exact hnok j (by omega) hjl
        conv => whnf
        refine cond_d (fun hlt2 => ?_) (fun hge2 => ?_)
        · have hlt2' : k < l.length := by omega
          conv => whnf
          refine cond_e (fun c1 => ?_) (fun c1 => ?_)
          · conv => whnf
            refine sd_d (by omega) ?_
            conv => whnf
            refine cond_e (fun c2 => ?_) (fun c2 => ?_)
            · have hx : xB l i k = false := by unfold xB; rw [decide_eq_true (show i = 0 by omega), decide_eq_true (show k = l.length - 1 by omega)]; simp
              conv => whnf
              refine sd_d (by omega) ?_
              conv => whnf
              refine ⟨k + 1, ⟨by omega, step hlt2' hx⟩, by omega, ?_⟩
              unfold crSt2; rw [Int.natCast_succ]
              refine weak_r ?_ ?_ <;> repeat' (first | exact trivial | exact rfl | refine And.intro ?_ ?_)
            · have hz : xB l i k = mtB (ed l i).1 (ed l i).2 (ed l k).1 (ed l k).2 := by unfold xB; rw [decide_eq_true hk, decide_eq_false (show ¬ k = l.length - 1 by omega), Bool.and_false]; rfl
              conv => whnf
              refine idx_intro (sD (ed l i).1 (ed l i).2) (cyc_at hlt') (by omega) (eL_uni _) ?_
              conv => whnf
              refine idx_intro (sD (ed l k).1 (ed l k).2) (cyc_at hlt2') (by omega) (eL_uni _) ?_
              conv => whnf
              refine callv_data (smeet_c (ed_bp hl h0 i).1 (ed_bp hl h0 i).2 (ed_bp hl h0 k).1 (ed_bp hl h0 k).2 (by omega)) ?_
              conv => whnf
              refine safe_intro (by kernel_rfl) ?_
              conv => whnf
              refine cond_intro (fun c3 => ?_) (fun c3 => ?_)
              · rw [crB_t hlt' hlt2' (by rw [hz]; exact c3)]
                conv => whnf
                exact ⟨rfl, trivial⟩
              · have hx : xB l i k = false := by rw [hz]; exact c3
                conv => whnf
                refine sd_d (by omega) ?_
                conv => whnf
                refine ⟨k + 1, ⟨by omega, step hlt2' hx⟩, by omega, ?_⟩
                unfold crSt2; rw [Int.natCast_succ]
                refine weak_dead 0 rfl ?_
                refine weak_r ?_ ?_ <;> repeat' (first | exact trivial | exact rfl | refine And.intro ?_ ?_)
          · have hz : xB l i k = mtB (ed l i).1 (ed l i).2 (ed l k).1 (ed l k).2 := by unfold xB; rw [decide_eq_true hk, decide_eq_false (show ¬ i = 0 by omega), Bool.false_and]; rfl
            conv => whnf
            refine idx_intro (sD (ed l i).1 (ed l i).2) (cyc_at hlt') (by omega) (eL_uni _) ?_
            conv => whnf
            refine idx_intro (sD (ed l k).1 (ed l k).2) (cyc_at hlt2') (by omega) (eL_uni _) ?_
            conv => whnf
            refine callv_data (smeet_c (ed_bp hl h0 i).1 (ed_bp hl h0 i).2 (ed_bp hl h0 k).1 (ed_bp hl h0 k).2 (by omega)) ?_
            conv => whnf
            refine safe_intro (by kernel_rfl) ?_
            conv => whnf
            refine cond_intro (fun c3 => ?_) (fun c3 => ?_)
            · rw [crB_t hlt' hlt2' (by rw [hz]; exact c3)]
              conv => whnf
              exact ⟨rfl, trivial⟩
            · have hx : xB l i k = false := by rw [hz]; exact c3
              conv => whnf
              refine sd_d (by omega) ?_
              conv => whnf
              refine ⟨k + 1, ⟨by omega, step hlt2' hx⟩, by omega, ?_⟩
              unfold crSt2; rw [Int.natCast_succ]
              refine weak_dead 0 rfl ?_
              refine weak_r ?_ ?_ <;> repeat' (first | exact trivial | exact rfl | refine And.intro ?_ ?_)
        · conv => whnf
          refine sd_d (by omega) ?_
          conv => whnf
          refine ⟨i + 1, ⟨by omega, fun j k' hj hk' => ?_⟩, by omega, ?_⟩
          · by_cases hji : j = i
            · subst hji; exact hnok k' (by omega) hk'
            · exact hno j k' (by omega) hk'
          unfold crSt; rw [Int.natCast_succ]
          refine weak_r ?_ ?_ <;> repeat' (first | exact trivial | exact rfl | refine And.intro ?_ ?_)
    · have : i = l.length := by omega
      subst this
      rw [crB_f (fun i k hi hk => hno i k hi hk)]
      conv => whnf
      exact ⟨rfl, trivial⟩
@[irreducible] def rgE (l : List P2) : Int :=
  if l.length < 3 ∨ 64 < l.length then 4
  else if 0 ≤ fstI (flB l) (List.range l.length) then 12
  else if crB l = true then 13
  else if sgnI (tot crQ l / 2) ≤ 0 ∨ (kf l l.length : Int) ≠ 0 then 8
  else 0
def vP (p : RD × RD) : P2 := (p.1.val, p.2.val)
def cP (p : P2) : RD × RD := (canon p.1, canon p.2)
@[irreducible] def rgR (l : List (RD × RD)) : Int :=
  if l.length < 3 ∨ 64 < l.length then 4 else if l.all okR = true then rgE (l.map vP) else 1
theorem pR_cP (p : P2) : pR (cP p) = pD p := by unfold cP; show ptR (canon p.1) (canon p.2) = ptD p.1 p.2; unfold ptD ptR rneg rnum rden; rfl
theorem rL_can {l : List (RD × RD)} (h : l.all okR = true) : rL l = pL (l.map vP) := by
  rw [List.all_eq_true] at h
  unfold rL pL
  rw [List.map_map]
  refine List.map_congr_left fun p hp => ?_
  have := h p hp
  unfold okR at this
  rw [decide_eq_true_eq, okP_zero] at this
  show pR p = pD (vP p)
  rw [← pR_cP]
  unfold cP vP
  rw [this.1, this.2]
theorem BP.szp {n : Nat} {p : P2} (h : BP n p) (hn : n < 90000000000) : SzP (cP p) := ⟨sz_bd h.1 hn, sz_bd h.2 hn⟩
theorem okR_cP (p : P2) : okR (cP p) = true := by
  unfold okR cP
  exact decide_eq_true (okP_zero.2 ⟨by rw [val_canon], by rw [val_canon]⟩)
theorem vP_cP (p : P2) : vP (cP p) = p := by unfold vP cP; rw [val_canon, val_canon]
theorem rcheck_c (l : List (RD × RD)) {n : Nat} (hz : ∀ p ∈ l, SzP p) (hl : ∀ p ∈ l, BP n (vP p)) (hn : n < 1000000) (hlen : l.length ≤ 100000) : Fun Tryz.prog 119 [.l (rL l)] [i64 (rgR l)] := by
  have hll : (rL l).length = l.length := by simp
  refine fun_of_go (fun t => false) mixed tOk Tryz.func119 rfl rfl ?_
  conv => whnf
  refine cond_d (fun h1 => ?_) (fun h1 => ?_)
  · have e : rgR l = 4 := by unfold rgR; rw [if_pos (by omega)]
    rw [e]
    conv => whnf
    exact ⟨rfl, trivial⟩
  conv => whnf
  refine cond_d (fun h2 => ?_) (fun h2 => ?_)
  · have e : rgR l = 4 := by unfold rgR; rw [if_pos (by omega)]
    rw [e]
    conv => whnf
    exact ⟨rfl, trivial⟩
  conv => whnf
  refine call_data rfl rfl (rcanon_c l (by omega) hz) ?_
  conv => whnf
  refine cond_nb (fun h3 => ?_) (fun h3 => ?_)
  · have e : rgR l = 1 := by unfold rgR; rw [if_neg (by omega), h3]; rfl
    rw [e]
    conv => whnf
    exact ⟨rfl, trivial⟩
  have e0 : rgR l = rgE (l.map vP) := by unfold rgR; rw [if_neg (by omega), if_pos h3]
  rw [e0, rL_can h3]
  have hm : ∀ p ∈ l.map vP, BP n p := fun p hp => by
    obtain ⟨q, hq, rfl⟩ := List.mem_map.1 hp
    exact hl q hq
  have hml : (l.map vP).length = l.length := List.length_map ..
  generalize hM : l.map vP = m at hm hml ⊢
  have r0 : rgE m = if 0 ≤ fstI (flB m) (List.range m.length) then 12 else if crB m = true then 13 else if sgnI (tot crQ m / 2) ≤ 0 ∨ (kf m m.length : Int) ≠ 0 then 8 else 0 := by
    unfold rgE; rw [if_neg (by omega)]
  rw [r0]
  conv => whnf
  refine call_data rfl rfl (flat_c m hm (by omega) (by omega)) ?_
  conv => whnf
  refine cond_d (fun h4 => ?_) (fun h4 => ?_)
  · rw [if_pos h4]
    conv => whnf
    exact ⟨rfl, trivial⟩
  rw [if_neg h4]
  conv => whnf
  refine call_data rfl rfl (crossing_c m hm (by omega) (by omega)) ?_
  conv => whnf
  refine cond_intro (fun h5 => ?_) (fun h5 => ?_)
  · rw [if_pos h5]
    conv => whnf
    exact ⟨rfl, trivial⟩
  rw [if_neg (by rw [h5]; decide)]
  have hta : Bd (1000 * (4 * n + 2) + 1) (tot crQ m / 2) := by
    have := area_bd hm m.length (Nat.le_refl _)
    rw [tot_all] at this
    refine (this.div (bd_int 2 (n := 1) (by decide))).mono ?_
    have : m.length * (4 * n + 2) ≤ 1000 * (4 * n + 2) := Nat.mul_le_mul_right _ (by omega)
    omega
  conv => whnf
  refine call_data rfl rfl (area_c m hm (by omega) (by omega)) ?_
  conv => whnf
  refine call_data rfl rfl (sign_q (.mk hta (by omega))) ?_
  conv => whnf
  refine cond_d (fun h6 => ?_) (fun h6 => ?_)
  · rw [if_pos (.inl h6)]
    conv => whnf
    exact ⟨rfl, trivial⟩
  conv => whnf
  refine call_data rfl rfl (first_c m hm (by omega) (by omega)) ?_
  conv => whnf
  refine cond_ne (fun h7 => ?_) (fun h7 => ?_)
  · rw [if_pos (.inr h7)]
    conv => whnf
    exact ⟨rfl, trivial⟩
  · rw [if_neg (by rintro (h | h) <;> contradiction)]
    conv => whnf
    exact ⟨rfl, trivial⟩
end Go.Nv
end
section
namespace Go.Nv
open Go.Proofs Nw
set_option maxRecDepth 100000
set_option linter.unusedVariables false
set_option linter.unusedSimpArgs false
def abB (p q : P2) : Bool := decide (0 < cmpI q.2 p.2)
theorem above_c {p q : P2} (hp : QP p) (hq : QP q) : Fun Tryz.prog 219 [pD q, .p 0 (pD p).cells] [.v (.bool (abB p q))] := by
  obtain ⟨x, y⟩ := p
  obtain ⟨u, v⟩ := q
  refine fun_of_go (fun t => false) mixed tOk Tryz.func219 rfl rfl ?_
  conv => whnf
  refine call_data rfl rfl (cmp_q hq.2 hp.2) ?_
  conv => whnf
  refine ⟨?_, trivial⟩
  conv => whnf
  rw [bz_eq]; unfold abB; rfl
def swE (p : P2) (e : P2 × P2) : P2 × P2 := if abB p e.1 then (e.2, e.1) else e
def odE (p : P2) (e : P2 × P2) : Bool := !abB p (swE p e).1 && (abB p (swE p e).2 && decide (0 < orI (swE p e).1 (swE p e).2 p))
def odF (p : P2) (out : Bool) (e : P2 × P2) : Bool := if odE p e then !out else out
@[irreducible] def odB (l : List P2) (p : P2) : Bool := (cyc l).foldl (odF p) false
noncomputable def oddSt (l : List P2) (p : P2) (i : Nat) : St :=
  ⟨fr 25 [(0, .own 2 0), (1, .d (.p 0 [.l (pL l)])), (5, .d (.l (pL l))), (6, .d (i64 (pL l).length)), (7, .d (i64 i))],
   [.box 232 [.d (.f 219 [.p 0 (pD p).cells])], .box 4 [.d (.v (.bool (((cyc l).take i).foldl (odF p) false)))],
    .loop .ready none #[12, 13] (rfO Tryz.f124.body).1 (rfO Tryz.f124.body).2 (fr 38 [(3, .d (.p 0 (pD p).cells)), (5, .ptr 0 0 0), (6, .ptr 1 0 0)])]⟩
theorem odd_c (l : List P2) (p : P2) {n : Nat} (hl : ∀ p ∈ l, BP n p) (hp : BP n p) (hn : n < 10000000) (hlen : l.length ≤ 100000) : Fun Tryz.prog 124 [.l (pL l), pD p] [.v (.bool (odB l p))] := by
  have qp := hp.q (by omega)
  refine fun_of_go (fun t => t == 5 || t == 6 || t == 7 || t == 8) mixed tOk Tryz.func124 rfl rfl ?_
  conv => whnf
  refine call_data rfl rfl (redges_c l) ?_
  conv => whnf
  refine range_intro (g := 262) (cap := [.d (.p 0 [.l (pL l)])]) (fun t => t == 5 || t == 6 || t == 7 || t == 8) mixed tOk rfl rfl rfl rfl rfl ?_
  conv => whnf
  refine loop_introD (fun t => t == 5 || t == 6 || t == 7 || t == 8 || t == 4) (fun i : Nat => oddSt l p i) (fun i => i ≤ l.length) (fun i => l.length - i) 0 mixed tOk (by omega) ?_ ?_
  · refine weak_l ?_ ?_ <;> repeat' (first | exact trivial | exact rfl | refine And.intro ?_ ?_)
  · intro i hi
    conv => whnf
    refine cond_d (fun hlt => ?_) (fun hge => ?_)
    · have hlt' : i < l.length := by rw [pL_len] at hlt; omega
      have hm := mod_lt' hlt'
      conv => whnf
      refine idx_intro (pD l[i]) (pL_get hlt') (by omega) (pL_uni l) ?_
      conv => whnf
      refine okc_drawY 10 _ (fun t => t == 5 || t == 6 || t == 7 || t == 8 || t == 4) (.tmp 12) [.tmp 13, .tmp 21] mixed tOk rfl rfl ⟨_, rfl⟩ (by kernel_rfl) ?_
      conv => whnf
      refine sd_d (by omega) ?_
      conv => whnf
      refine sd_d (by omega) ?_
      conv => whnf
      refine idx_intro (pD (l[(i + 1) % l.length]'hm)) (nx_get hlt') (nx_nn _ _) (pL_uni l) ?_
      conv => whnf
      refine safe_intro (by kernel_rfl) ?_
      conv => whnf
      refine call_yield (fun t => t == 5 || t == 6 || t == 7 || t == 8) mixed tOk rfl rfl rfl ?_
      conv => whnf
      have b1 := hl l[i] (List.getElem_mem _)
      have b2 := hl (l[(i + 1) % l.length]'hm) (List.getElem_mem _)
      have hcy := cyc_take hlt'
      generalize l[i] = a at *
      generalize l[(i + 1) % l.length]'hm = b at *
      have q1 := b1.q (by omega)
      have q2 := b2.q (by omega)
      have hstep : ((cyc l).take (i + 1)).foldl (odF p) false = odF p (((cyc l).take i).foldl (odF p) false) (a, b) := by rw [hcy, List.foldl_append]; rfl
      generalize ((cyc l).take i).foldl (odF p) false = out at *
      refine call_data rfl rfl (above_c qp q1) ?_
      conv => whnf
      refine cond_intro (fun c1 => ?_) (fun c1 => ?_)
      · have hsw : swE p (a, b) = (b, a) := by unfold swE; rw [c1]; rfl
        have e0 : swE p (a, b) = (b, a) := hsw
        conv => whnf
        refine call_data rfl rfl (above_c qp q2) ?_
        conv => whnf
        refine cond_nb (fun c2 => ?_) (fun c2 => ?_)
        · conv => whnf
          refine call_data rfl rfl (above_c qp q1) ?_
          conv => whnf
          refine cond_intro (fun c3 => ?_) (fun c3 => ?_)
          · conv => whnf
            refine call_data rfl rfl (orient_c b2.1 b2.2 b1.1 b1.2 hp.1 hp.2 (by omega)) ?_
            conv => whnf
            refine cond_d (fun c4 => ?_) (fun c4 => ?_)
            · have hz : odF p out (a, b) = !out := by unfold odF odE; rw [e0, c2, c3, decide_eq_true c4]; rfl
              conv => whnf
              refine safe_intro (by kernel_rfl) ?_
              conv => whnf
              refine sd_d (by omega) ?_
              conv => whnf
              refine ⟨i + 1, by omega, by omega, ?_⟩
              unfold oddSt
              rw [hstep, hz, Int.natCast_succ]
              refine weak_dead 3 rfl (weak_dead 4 rfl (weak_dead 5 rfl (weak_dead 6 rfl ?_)))
              refine weak_l ?_ ?_ <;> repeat' (first | exact trivial | exact rfl | refine And.intro ?_ ?_)
            · have hz : odF p out (a, b) = out := by unfold odF odE; rw [e0, c2, c3, decide_eq_false c4]; rfl
              conv => whnf
              refine safe_intro (by kernel_rfl) ?_
              conv => whnf
              refine sd_d (by omega) ?_
              conv => whnf
              refine ⟨i + 1, by omega, by omega, ?_⟩
              unfold oddSt
              rw [hstep, hz, Int.natCast_succ]
              refine weak_dead 3 rfl (weak_dead 4 rfl (weak_dead 5 rfl (weak_dead 6 rfl ?_)))
              refine weak_l ?_ ?_ <;> repeat' (first | exact trivial | exact rfl | refine And.intro ?_ ?_)
          · have hz : odF p out (a, b) = out := by unfold odF odE; rw [e0, c2, c3]; rfl
            conv => whnf
            refine safe_intro (by kernel_rfl) ?_
            conv => whnf
            refine sd_d (by omega) ?_
            conv => whnf
            refine ⟨i + 1, by omega, by omega, ?_⟩
            unfold oddSt
            rw [hstep, hz, Int.natCast_succ]
            refine weak_dead 3 rfl (weak_dead 4 rfl (weak_dead 5 rfl (weak_dead 6 rfl ?_)))
            refine weak_l ?_ ?_ <;> repeat' (first | exact trivial | exact rfl | refine And.intro ?_ ?_)
        · have hz : odF p out (a, b) = out := by unfold odF odE; rw [e0, c2]; rfl
          conv => whnf
          refine safe_intro (by kernel_rfl) ?_
          conv => whnf
          refine sd_d (by omega) ?_
          conv => whnf
          refine ⟨i + 1, by omega, by omega, ?_⟩
          unfold oddSt
          rw [hstep, hz, Int.natCast_succ]
          refine weak_dead 3 rfl (weak_dead 4 rfl (weak_dead 5 rfl (weak_dead 6 rfl ?_)))
          refine weak_l ?_ ?_ <;> repeat' (first | exact trivial | exact rfl | refine And.intro ?_ ?_)
      · have hsw : swE p (a, b) = (a, b) := by unfold swE; rw [c1]; rfl
        have e0 : swE p (a, b) = (a, b) := hsw
        conv => whnf
        refine call_data rfl rfl (above_c qp q1) ?_
        conv => whnf
        refine cond_nb (fun c2 => ?_) (fun c2 => ?_)
        · conv => whnf
          refine call_data rfl rfl (above_c qp q2) ?_
          conv => whnf
          refine cond_intro (fun c3 => ?_) (fun c3 => ?_)
          · conv => whnf
            refine call_data rfl rfl (orient_c b1.1 b1.2 b2.1 b2.2 hp.1 hp.2 (by omega)) ?_
            conv => whnf
            refine cond_d (fun c4 => ?_) (fun c4 => ?_)
            · have hz : odF p out (a, b) = !out := by unfold odF odE; rw [e0, c2, c3, decide_eq_true c4]; rfl
              conv => whnf
              refine safe_intro (by kernel_rfl) ?_
              conv => whnf
              refine sd_d (by omega) ?_
              conv => whnf
              refine ⟨i + 1, by omega, by omega, ?_⟩
              unfold oddSt
              rw [hstep, hz, Int.natCast_succ]
              refine weak_dead 3 rfl (weak_dead 4 rfl (weak_dead 5 rfl (weak_dead 6 rfl ?_)))
              refine weak_l ?_ ?_ <;> repeat' (first | exact trivial | exact rfl | refine And.intro ?_ ?_)
            · have hz : odF p out (a, b) = out := by unfold odF odE; rw [e0, c2, c3, decide_eq_false c4]; rfl
              conv => whnf
              refine safe_intro (by kernel_rfl) ?_
              conv => whnf
              refine sd_d (by omega) ?_
              conv => whnf
              refine ⟨i + 1, by omega, by omega, ?_⟩
              unfold oddSt
              rw [hstep, hz, Int.natCast_succ]
              refine weak_dead 3 rfl (weak_dead 4 rfl (weak_dead 5 rfl (weak_dead 6 rfl ?_)))
              refine weak_l ?_ ?_ <;> repeat' (first | exact trivial | exact rfl | refine And.intro ?_ ?_)
          · have hz : odF p out (a, b) = out := by unfold odF odE; rw [e0, c2, c3]; rfl
            conv => whnf
            refine safe_intro (by kernel_rfl) ?_
            conv => whnf
            refine sd_d (by omega) ?_
            conv => whnf
            refine ⟨i + 1, by omega, by omega, ?_⟩
            unfold oddSt
            rw [hstep, hz, Int.natCast_succ]
            refine weak_dead 3 rfl (weak_dead 4 rfl (weak_dead 5 rfl (weak_dead 6 rfl ?_)))
            refine weak_l ?_ ?_ <;> repeat' (first | exact trivial | exact rfl | refine And.intro ?_ ?_)
        · have hz : odF p out (a, b) = out := by unfold odF odE; rw [e0, c2]; rfl
          conv => whnf
          refine safe_intro (by kernel_rfl) ?_
          conv => whnf
          refine sd_d (by omega) ?_
          conv => whnf
          refine ⟨i + 1, by omega, by omega, ?_⟩
          unfold oddSt
          rw [hstep, hz, Int.natCast_succ]
          refine weak_dead 3 rfl (weak_dead 4 rfl (weak_dead 5 rfl (weak_dead 6 rfl ?_)))
          refine weak_l ?_ ?_ <;> repeat' (first | exact trivial | exact rfl | refine And.intro ?_ ?_)
    · have : i = l.length := by rw [pL_len] at hge; omega
      subst this
      conv => whnf
      refine ⟨?_, trivial⟩
      conv => whnf
      unfold odB
      rw [List.take_of_length_le (by rw [cyc_len]; omega)]
end Go.Nv
end
section
namespace Go.Nv
open Go.Proofs Nw
set_option maxRecDepth 100000
set_option linter.unusedVariables false
set_option linter.unusedSimpArgs false
theorem rL_cP (l : List P2) : rL (l.map cP) = pL l := by
  unfold rL pL
  rw [List.map_map]
  exact List.map_congr_left fun p _ => pR_cP p
theorem all_cP (l : List P2) : (l.map cP).all okR = true := by
  rw [List.all_eq_true]; intro p hp
  obtain ⟨q, _, rfl⟩ := List.mem_map.1 hp
  exact okR_cP q
theorem vP_map (l : List P2) : (l.map cP).map vP = l := by
  rw [List.map_map]
  conv => rhs; rw [← List.map_id l]
  exact List.map_congr_left fun p _ => vP_cP p
theorem rcheck_q (l : List P2) {n : Nat} (hl : ∀ p ∈ l, BP n p) (hn : n < 1000000) (hlen : l.length ≤ 100000) : Fun Tryz.prog 119 [.l (pL l)] [i64 (rgE l)] := by
  have h := rcheck_c (l.map cP) (n := n) (fun p hp => by obtain ⟨q, hq, rfl⟩ := List.mem_map.1 hp; exact (hl q hq).szp (by omega))
    (fun p hp => by obtain ⟨q, hq, rfl⟩ := List.mem_map.1 hp; rw [vP_cP]; exact hl q hq) hn (by rw [List.length_map]; exact hlen)
  rw [rL_cP] at h
  have e : rgR (l.map cP) = rgE l := by
    unfold rgR
    rw [List.length_map, if_pos (all_cP l), vP_map]
    split
    · rename_i hh; unfold rgE; rw [if_pos hh]
    · rfl
  rwa [e] at h
theorem rcanon_q (l : List P2) {n : Nat} (hl : ∀ p ∈ l, BP n p) (hn : n < 1000000) (hlen : l.length ≤ 100000) : Fun Tryz.prog 123 [.l (pL l)] [.v (.bool true)] := by
  have h := rcanon_c (l.map cP) (by rw [List.length_map]; omega) (fun p hp => by obtain ⟨q, hq, rfl⟩ := List.mem_map.1 hp; exact (hl q hq).szp (by omega))
  rw [rL_cP, all_cP] at h
  exact h
@[irreducible] def onB (l : List P2) (p : P2) : Bool := (cyc l).any fun e => betB e.1 e.2 p
@[irreducible] def inV (l : List P2) (p : P2) : Int := if rgE l ≠ 0 then 0 else if onB l p = true then 0 else if odB l p = true then 1 else -1
@[irreducible] def inE (l : List P2) : Int := if rgE l ≠ 0 then 1 else 0
noncomputable def insSt (l : List P2) (p : P2) (i : Nat) : St :=
  ⟨fr 25 [(0, .own 2 0), (1, .d (.p 0 [.l (pL l)])), (5, .d (.l (pL l))), (6, .d (i64 (pL l).length)), (7, .d (i64 i))],
   [.box 3 [.d (i64 0)], .box 35 [.d (i64 0)],
    .loop .ready none #[19, 20] (rfO Tryz.f216.body).1 (rfO Tryz.f216.body).2 (fr 28 [(0, .d (.l (pL l))), (3, .d (.p 0 (pD p).cells)), (4, .ptr 0 0 0), (5, .ptr 1 0 0)])]⟩
theorem rinside_c (l : List P2) (p : P2) {n : Nat} (hl : ∀ p ∈ l, BP n p) (hp : BP n p) (hn : n < 1000000) (hlen : l.length ≤ 100000) : Fun Tryz.prog 216 [.l (pL l), pD p] [i64 (inV l p), i64 (inE l)] := by
  have qp := hp.q (by omega)
  refine fun_of_go (fun t => t == 4 || t == 5 || t == 6 || t == 7) mixed tOk Tryz.func216 rfl rfl ?_
  conv => whnf
  refine call_data rfl rfl (rcheck_q l hl hn hlen) ?_
  conv => whnf
  refine cond_ne (fun h => ?_) (fun h => ?_)
  · rw [show inV l p = 0 by unfold inV; rw [if_pos h], show inE l = 1 by unfold inE; rw [if_pos h]]
    conv => whnf
    refine ⟨?_, ?_, trivial⟩
    · conv => whnf
    · conv => whnf
  conv => whnf
  refine call_data rfl rfl (rcanon_q [p] (n := n) (fun q hq => by rw [List.mem_singleton.1 hq]; exact hp) hn (by simp)) ?_
  conv => whnf
  have e1 : inE l = 0 := by unfold inE; rw [if_neg (fun hh => hh h)]
  have e2 : inV l p = if onB l p = true then 0 else if odB l p = true then 1 else -1 := by unfold inV; rw [if_neg (fun hh => hh h)]
  rw [e1, e2]
  refine call_data rfl rfl (redges_c l) ?_
  conv => whnf
  refine range_intro (g := 262) (cap := [.d (.p 0 [.l (pL l)])]) (fun t => t == 4 || t == 5 || t == 6 || t == 7) mixed tOk rfl rfl rfl rfl rfl ?_
  conv => whnf
  refine loop_introD (fun t => t == 4 || t == 5 || t == 6 || t == 7) (fun i : Nat => insSt l p i) (fun i => i ≤ l.length ∧ ((cyc l).take i).any (fun e => betB e.1 e.2 p) = false) (fun i => l.length - i) 0 mixed tOk ⟨by omega, rfl⟩ ?_ ?_
  · refine weak_l ?_ ?_ <;> repeat' (first | exact trivial | exact rfl | refine And.intro ?_ ?_)
  · rintro i ⟨hi, hno⟩
    conv => whnf
    refine cond_d (fun hlt => ?_) (fun hge => ?_)
    · have hlt' : i < l.length := by rw [pL_len] at hlt; omega
      have hm := mod_lt' hlt'
      conv => whnf
      refine idx_intro (pD l[i]) (pL_get hlt') (by omega) (pL_uni l) ?_
      conv => whnf
      refine okc_drawY 10 _ (fun t => t == 4 || t == 5 || t == 6 || t == 7) (.tmp 12) [.tmp 13, .tmp 21] mixed tOk rfl rfl ⟨_, rfl⟩ (by kernel_rfl) ?_
      conv => whnf
      refine sd_d (by omega) ?_
      conv => whnf
      refine sd_d (by omega) ?_
      conv => whnf
      refine idx_intro (pD (l[(i + 1) % l.length]'hm)) (nx_get hlt') (nx_nn _ _) (pL_uni l) ?_
      conv => whnf
      refine safe_intro (by kernel_rfl) ?_
      conv => whnf
      refine call_yield (fun t => t == 4 || t == 5 || t == 6 || t == 7) mixed tOk rfl rfl rfl ?_
      conv => whnf
      have b1 := hl l[i] (List.getElem_mem _)
      have b2 := hl (l[(i + 1) % l.length]'hm) (List.getElem_mem _)
      have hcy := cyc_take hlt'
      have hmem : (l[i], l[(i + 1) % l.length]'hm) ∈ cyc l := by rw [← cyc_get hlt']; exact List.getElem_mem _
      generalize l[i] = a at *
      generalize l[(i + 1) % l.length]'hm = b at *
      refine call_data rfl rfl (between_c b1.1 b1.2 b2.1 b2.2 hp.1 hp.2 (by omega)) ?_
      conv => whnf
      refine cond_intro (fun c1 => ?_) (fun c1 => ?_)
      · have hon : onB l p = true := by unfold onB; exact List.any_eq_true.2 ⟨_, hmem, c1⟩
        rw [if_pos hon]
        conv => whnf
        refine safe_intro (by kernel_rfl) ?_
        conv => whnf
        refine ⟨?_, ?_, trivial⟩
        · conv => whnf
        · conv => whnf
      · conv => whnf
        refine safe_intro (by kernel_rfl) ?_
        conv => whnf
        refine sd_d (by omega) ?_
        conv => whnf
        refine ⟨i + 1, ⟨by omega, ?_⟩, by omega, ?_⟩
        · rw [hcy, List.any_append, hno]; simp; exact c1
        unfold insSt
        rw [Int.natCast_succ]
        refine weak_dead 3 rfl (weak_dead 4 rfl (weak_dead 5 rfl (weak_dead 6 rfl ?_)))
        refine weak_l ?_ ?_ <;> repeat' (first | exact trivial | exact rfl | refine And.intro ?_ ?_)
    · have : i = l.length := by rw [pL_len] at hge; omega
      subst this
      rw [List.take_of_length_le (by rw [cyc_len]; omega)] at hno
      have hon : onB l p = false := by unfold onB; exact hno
      rw [hon]
      rw [if_neg (show ¬ false = true by decide)]
      conv => whnf
      refine call_data rfl rfl (odd_c l p hl hp (by omega) hlen) ?_
      conv => whnf
      refine cond_intro (fun c1 => ?_) (fun c1 => ?_)
      · rw [if_pos c1]
        conv => whnf
        refine ⟨?_, ?_, trivial⟩
        · conv => whnf
        · conv => whnf
      · rw [if_neg (by rw [c1]; decide)]
        conv => whnf
        refine ⟨?_, ?_, trivial⟩
        · conv => whnf
        · conv => whnf
end Go.Nv
end
