import Derived.Test.YtdjbkccoofcnjaaGreatNvD4
import Derived.Test.YtdjbkccoofcnjaaGreatNvC10
import Derived.Test.YtdjbkccoofcnjaaGreatNvN6
set_option linter.all false
set_option linter.unusedVariables false
set_option linter.unusedSimpArgs false
section
namespace Go.Nv
open Go.Proofs Nw
set_option maxRecDepth 100000
set_option linter.unusedVariables false
set_option linter.unusedSimpArgs false
theorem cmpI_pos {p q : Rat} : 0 < cmpI p q ↔ q < p := by
  have := cmpI_le (p := p) (q := q)
  constructor
  · intro h
    have h1 : ¬ p ≤ q := fun h2 => by have := this.2 h2; omega
    grind
  · intro h
    have h1 : ¬ cmpI p q ≤ 0 := fun h2 => by have := this.1 h2; grind
    omega
theorem abB_iff {p q : P2} : abB p q = true ↔ p.2 < q.2 := by unfold abB; rw [decide_eq_true_eq, cmpI_pos]
theorem orI_pos {a b c : P2} : 0 < orI a b c ↔ 0 < orQ a b c := by
  unfold orI; rw [sgnI_eq]; unfold sgnQ
  by_cases h1 : orQ a b c < 0
  · rw [if_pos h1]; constructor <;> intro h
    · exact absurd h (by decide)
    · grind
  · rw [if_neg h1]
    by_cases h2 : 0 < orQ a b c
    · rw [if_pos h2]; exact ⟨fun _ => h2, fun _ => by decide⟩
    · rw [if_neg h2]; constructor <;> intro h
      · exact absurd h (by decide)
      · exact absurd h h2
theorem odE_iff {p : P2} {e : P2 × P2} : odE p e = true ↔ crI e.1 e.2 p ≠ 0 := by
  unfold odE swE crI
  by_cases h1 : abB p e.1 = true
  · rw [if_pos h1]
    have h1' := abB_iff.1 h1
    rw [if_neg (by grind), Bool.and_eq_true, Bool.and_eq_true, decide_eq_true_eq, orI_pos, abB_iff, Bool.not_eq_true', ← Bool.not_eq_true, abB_iff]
    simp only
    by_cases h2 : e.2.2 ≤ p.2 ∧ p.2 < e.1.2 ∧ 0 < orQ e.2 e.1 p
    · rw [if_pos h2]; exact ⟨fun _ => by decide, fun _ => ⟨by grind, h2.2⟩⟩
    · rw [if_neg h2]; exact ⟨fun h => absurd ⟨by grind, h.2⟩ h2, fun h => absurd rfl h⟩
  · rw [if_neg h1]
    have h1' : ¬ p.2 < e.1.2 := fun h => h1 (abB_iff.2 h)
    rw [Bool.and_eq_true, Bool.and_eq_true, decide_eq_true_eq, orI_pos, abB_iff, Bool.not_eq_true', ← Bool.not_eq_true, abB_iff]
    by_cases h2 : e.1.2 ≤ p.2 ∧ p.2 < e.2.2 ∧ 0 < orQ e.1 e.2 p
    · rw [if_pos h2]; exact ⟨fun _ => by decide, fun _ => ⟨h1', h2.2⟩⟩
    · rw [if_neg h2, if_neg (by grind)]; exact ⟨fun h => absurd ⟨by grind, h.2⟩ h2, fun h => absurd rfl h⟩
theorem crI_rng (u v p : P2) : crI u v p = 0 ∨ crI u v p = 1 ∨ crI u v p = -1 := by
  unfold crI
  split
  · exact .inr (.inl rfl)
  · split
    · exact .inr (.inr rfl)
    · exact .inl rfl
theorem par_step (b o : Bool) (c s : Int) (r : c = 0 ∨ c = 1 ∨ c = -1) (h : o = true ↔ c ≠ 0) : ((if o = true then !b else b) ^^ decide (s % 2 ≠ 0)) = (b ^^ decide ((c + s) % 2 ≠ 0)) := by
  by_cases hs : s % 2 = 0
  · rw [decide_eq_false (show ¬ s % 2 ≠ 0 by omega)]
    rcases r with r | r | r
    · have : o = false := by cases o with
        | false => rfl
        | true => exact absurd r (h.1 rfl)
      rw [this, r, decide_eq_false (show ¬ (0 + s) % 2 ≠ 0 by omega)]; cases b <;> rfl
    · rw [h.2 (by omega), r, decide_eq_true (show (1 + s) % 2 ≠ 0 by omega)]; cases b <;> rfl
    · rw [h.2 (by omega), r, decide_eq_true (show (-1 + s) % 2 ≠ 0 by omega)]; cases b <;> rfl
  · rw [decide_eq_true (show s % 2 ≠ 0 by omega)]
    rcases r with r | r | r
    · have : o = false := by cases o with
        | false => rfl
        | true => exact absurd r (h.1 rfl)
      rw [this, r, decide_eq_true (show (0 + s) % 2 ≠ 0 by omega)]; cases b <;> rfl
    · rw [h.2 (by omega), r, decide_eq_false (show ¬ (1 + s) % 2 ≠ 0 by omega)]; cases b <;> rfl
    · rw [h.2 (by omega), r, decide_eq_false (show ¬ (-1 + s) % 2 ≠ 0 by omega)]; cases b <;> rfl
theorem od_fold (p : P2) : ∀ (E : List (P2 × P2)) (b : Bool), E.foldl (odF p) b = (b ^^ decide ((sumZ (fun u v => crI u v p) E) % 2 ≠ 0))
  | [], b => by simp [sumZ]
  | e :: E, b => by
    rw [List.foldl_cons, od_fold p E]
    unfold odF
    exact par_step b _ _ _ (crI_rng e.1 e.2 p) odE_iff
theorem odB_wn (l : List P2) (p : P2) : odB l p = decide (wn l p % 2 ≠ 0) := by
  unfold odB
  rw [od_fold]; simp only [Bool.false_xor]; rfl
theorem bet_line {a b p : P2} (hab : a ≠ b) (ho : orQ a b p = 0) (h1 : leP a p) (h2 : leP p b) : ∃ t : Rat, 0 ≤ t ∧ t ≤ 1 ∧ lin a b t = p := by
  unfold leP at h1 h2
  simp only [orQ] at ho
  by_cases hx : a.1 = b.1
  · have hy : a.2 ≠ b.2 := fun h => hab (Prod.ext hx h)
    have hz : (b.2 - a.2) * (p.1 - a.1) = 0 := by rw [hx] at ho ⊢; grind
    have hpx : p.1 = a.1 := by
      rcases Rat.mul_eq_zero.1 hz with h | h
      · exact absurd (by grind) hy
      · grind
    have y1 : a.2 ≤ p.2 := by grind
    have y2 : p.2 ≤ b.2 := by grind
    obtain ⟨t0, t1⟩ := div_unit (x := p.2 - a.2) (y := b.2 - a.2) (by grind) (by grind) (by grind)
    refine ⟨_, t0, t1, Prod.ext ?_ ?_⟩
    · simp only [lin]; rw [hx, hpx]; grind
    · simp only [lin]
      have : b.2 - a.2 ≠ 0 := by grind
      grind
  · have x1 : a.1 ≤ p.1 := by grind
    have x2 : p.1 ≤ b.1 := by grind
    obtain ⟨t0, t1⟩ := div_unit (x := p.1 - a.1) (y := b.1 - a.1) (by grind) (by grind) (by grind)
    have hn : b.1 - a.1 ≠ 0 := by grind
    refine ⟨_, t0, t1, Prod.ext ?_ ?_⟩
    · simp only [lin]; grind
    · simp only [lin]; grind
theorem cmP_zero {p q : P2} : cmP p q = 0 ↔ p = q := by
  unfold cmP
  by_cases h : cmpI p.1 q.1 = 0
  · rw [if_pos h, cmpI_zero]
    have := cmpI_zero.1 h
    exact ⟨fun h2 => Prod.ext this h2, fun h2 => by rw [h2]⟩
  · rw [if_neg h]
    exact ⟨fun h2 => absurd h2 h, fun h2 => absurd (cmpI_zero.2 (by rw [h2])) h⟩
theorem bet_on {a b p : P2} (hab : a ≠ b) : betB a b p = true ↔ ∃ t : Rat, 0 ≤ t ∧ t ≤ 1 ∧ lin a b t = p := by
  unfold betB
  rw [Bool.and_eq_true, Bool.and_eq_true, Bool.or_eq_true, decide_eq_true_eq, decide_eq_true_eq, decide_eq_true_eq, decide_eq_true_eq, orI_zero]
  constructor
  · rintro ⟨ho, hp, _⟩
    rcases cmP_rng a p with h1 | h1 | h1 <;> rcases cmP_rng p b with h2 | h2 | h2
    · exact bet_line hab ho (cmP_le.1 (by omega)) (cmP_le.1 (by omega))
    · exact ⟨1, by grind, by grind, by rw [lin_one]; exact (cmP_zero.1 h2).symm⟩
    · rw [h1, h2] at hp; exact absurd hp (by decide)
    · exact ⟨0, by grind, by grind, by rw [lin_zero]; exact cmP_zero.1 h1⟩
    · exact ⟨0, by grind, by grind, by rw [lin_zero]; exact cmP_zero.1 h1⟩
    · exact ⟨0, by grind, by grind, by rw [lin_zero]; exact cmP_zero.1 h1⟩
    · rw [h1, h2] at hp; exact absurd hp (by decide)
    · exact ⟨1, by grind, by grind, by rw [lin_one]; exact (cmP_zero.1 h2).symm⟩
    · have k1 : leP p a := leP_not fun h => by have := cmP_le.2 h; omega
      have k2 : leP b p := leP_not fun h => by have := cmP_le.2 h; omega
      obtain ⟨t, t0, t1, e⟩ := bet_line (a := b) (b := a) (fun h => hab h.symm) (by simp only [orQ] at ho ⊢; grind) k2 k1
      exact ⟨1 - t, by grind, by grind, by rw [← e]; exact (lin_swap a b t).symm⟩
  · rintro ⟨t, t0, t1, rfl⟩
    refine ⟨by simp only [orQ, lin]; grind, ?_, .inl fun h => hab (cmP_zero.1 h)⟩
    rcases leP_total a b with h | h
    · obtain ⟨k1, k2⟩ := leP_lin h t0 t1
      have c1 := cmP_le.2 k1
      have c2 := cmP_le.2 k2
      rcases cmP_rng a (lin a b t) with h1 | h1 | h1 <;> rcases cmP_rng (lin a b t) b with h2 | h2 | h2 <;> rw [h1, h2] <;> first | decide | omega
    · obtain ⟨k1, k2⟩ := leP_lin h (t := 1 - t) (by grind) (by grind)
      rw [lin_swap] at k1 k2
      have e : (1 : Rat) - (1 - t) = t := by grind
      rw [e] at k1 k2
      -- a point not greater, and not less
      have g1 : cmP a (lin a b t) = 0 ∨ 0 < cmP a (lin a b t) := by
        rcases cmP_rng a (lin a b t) with h1 | h1 | h1
        · have := cmP_le.1 (show cmP a (lin a b t) ≤ 0 by omega)
          have : a = lin a b t := by
            unfold leP at this k2
            generalize lin a b t = z at *
            exact Prod.ext (by grind) (by grind)
          exact .inl (cmP_zero.2 this)
        · exact .inl h1
        · exact .inr (by omega)
      have g2 : cmP (lin a b t) b = 0 ∨ 0 < cmP (lin a b t) b := by
        rcases cmP_rng (lin a b t) b with h1 | h1 | h1
        · have := cmP_le.1 (show cmP (lin a b t) b ≤ 0 by omega)
          have : lin a b t = b := by
            unfold leP at this k1
            generalize lin a b t = z at *
            exact Prod.ext (by grind) (by grind)
          exact .inl (cmP_zero.2 this)
        · exact .inl h1
        · exact .inr (by omega)
      rcases g1 with g1 | g1
      · rw [g1]; omega
      · rcases g2 with g2 | g2
        · rw [g2]; omega
        · exact Int.mul_nonneg (by omega) (by omega)
theorem RgOk.edge_ne {l : List P2} (h : RgOk l) {e : P2 × P2} (he : e ∈ cyc l) : e.1 ≠ e.2 := by
  obtain ⟨i, hi, rfl⟩ := mem_ed he
  exact h.ne i
theorem RgOk.onB {l : List P2} (h : RgOk l) (p : P2) : onB l p = false ↔ offL l p := by
  unfold Nv.onB
  rw [List.any_eq_false]
  constructor
  · intro ho e he t t0 t1 heq
    exact ho e he ((bet_on (h.edge_ne he)).2 ⟨t, t0, t1, heq⟩)
  · intro ho e he hb
    obtain ⟨t, t0, t1, heq⟩ := (bet_on (h.edge_ne he)).1 hb
    exact ho e he t t0 t1 heq
theorem RgOk.inV {l : List P2} (h : RgOk l) (p : P2) : (inV l p = 0 ∧ ¬ offL l p) ∨ (inV l p = 1 ∧ offL l p ∧ wn l p = 1) ∨ (inV l p = -1 ∧ offL l p ∧ wn l p = 0) := by
  have hz : rgE l = 0 := rgE_zero.2 h
  unfold Nv.inV
  rw [if_neg (fun hh => hh hz)]
  by_cases ho : Nv.onB l p = true
  · rw [if_pos ho]; left
    refine ⟨rfl, fun hoff => ?_⟩
    rw [(h.onB p).2 hoff] at ho; exact absurd ho (by decide)
  · rw [if_neg ho]
    have hoff := (h.onB p).1 (by simpa using ho)
    right
    rcases h.simp.wn01 h.area hoff with e | e
    · right
      rw [odB_wn, e, if_neg (by decide)]
      exact ⟨rfl, hoff, rfl⟩
    · left
      rw [odB_wn, e, if_pos (by decide)]
      exact ⟨rfl, hoff, rfl⟩
theorem mtR_apart {a b : List P2} (ha : RgOk a) (hb : RgOk b) (h : mtR a b = false) : Apart a b := by
  unfold mtR at h
  rw [List.any_eq_false] at h
  intro e he f hf
  have h1 := h e he
  rw [Bool.not_eq_true, List.any_eq_false] at h1
  have h2 := h1 f hf
  exact mtB_false (by simpa using h2) (ha.edge_ne he) (hb.edge_ne hf)
theorem ix_head {l : List P2} (h : RgOk l) : ix l 0 ∈ l := ix_mem (by have := h.len; omega)
theorem wiB_iff {a b : List P2} (ha : RgOk a) (hb : RgOk b) (hab : Apart a b) : wiB a b = decide (wn b (ix a 0) = 1) := by
  have hi : inE b = 0 := by unfold inE; rw [rgE_zero.2 hb]; rfl
  have hoff : offL b (ix a 0) := by
    obtain ⟨e, he, e1⟩ := vert_edge (ix_head ha)
    have := hab.off he (t := 0) (by grind) (by grind)
    rw [lin_zero, e1] at this; exact this
  unfold wiB
  rw [hi, decide_eq_true rfl]
  rcases hb.inV (ix a 0) with ⟨e, h⟩ | ⟨e, _, h⟩ | ⟨e, _, h⟩
  · exact absurd hoff h
  · rw [e, h]; rfl
  · rw [e, h]; rfl
theorem hoL_plg {o : List P2} (ho : RgOk o) : ∀ (hs : List (List (RD × RD))) (pre : List (List P2)), hoL o pre hs = 0 → (∀ x ∈ pre, RgOk x) →
    (∀ h ∈ hs.map (List.map vP), RgOk h ∧ Apart o h ∧ ∃ p ∈ h, wn o p ≠ 0) ∧ (∀ x ∈ pre, ∀ h ∈ hs.map (List.map vP), Aside x h) ∧ (hs.map (List.map vP)).Pairwise Aside
  | [], pre, _, _ => ⟨by simp, by simp, List.Pairwise.nil⟩
  | h :: hs, pre, e, hpre => by
    rw [hoL] at e
    split at e
    · rename_i h1; exact absurd e h1
    rename_i h1
    split at e
    · rename_i h2; exact absurd e h2
    rename_i h2
    have h1 : rgR h = 0 := Classical.not_not.1 h1
    have h2 : hoE o pre (h.map vP) = 0 := Classical.not_not.1 h2
    have hr : RgOk (h.map vP) := rgE_zero.1 (rgR_zero h1).2.1
    unfold hoE at h2
    split at h2
    · exact absurd h2 (by decide)
    rename_i a1
    split at h2
    · exact absurd h2 (by decide)
    rename_i a2
    split at h2
    · exact absurd h2 (by decide)
    rename_i a3
    have ap : Apart (h.map vP) o := mtR_apart hr ho (by
      cases hb : mtR (h.map vP) o with
      | false => rfl
      | true => exact absurd (.inl hb) a1)
    have apx : ∀ x ∈ pre, Apart (h.map vP) x := fun x hx => mtR_apart hr (hpre x hx) (by
      cases hb : mtR (h.map vP) x with
      | false => rfl
      | true => exact absurd (.inr (List.any_eq_true.2 ⟨x, hx, hb⟩)) a1)
    have hin : wn o (ix (h.map vP) 0) ≠ 0 := by
      have hw : wiB (h.map vP) o = true := by simpa using a2
      rw [wiB_iff hr ho ap, decide_eq_true_eq] at hw
      omega
    have off0 : ∀ {a b : List P2}, RgOk a → Apart a b → offL b (ix a 0) := fun ha hab => by
      obtain ⟨e, he, e1⟩ := vert_edge (ix_head ha)
      have := hab.off he (t := 0) (by grind) (by grind)
      rw [lin_zero, e1] at this; exact this
    have asd : ∀ x ∈ pre, Aside x (h.map vP) := fun x hx => by
      have hx' := hpre x hx
      have hap := apx x hx
      have hz : (wiB (h.map vP) x || wiB x (h.map vP)) = false := by
        cases hb : (wiB (h.map vP) x || wiB x (h.map vP)) with
        | false => rfl
        | true => exact absurd (List.any_eq_true.2 ⟨x, hx, hb⟩) a3
      rw [Bool.or_eq_false_iff, wiB_iff hr hx' hap, wiB_iff hx' hr hap.symm, decide_eq_false_iff_not, decide_eq_false_iff_not] at hz
      refine ⟨hap.symm, ⟨ix (h.map vP) 0, ix_head hr, ?_⟩, ⟨ix x 0, ix_head hx', ?_⟩⟩
      · rcases hx'.simp.wn01 hx'.area (off0 hr hap) with e | e
        · exact e
        · exact absurd e hz.1
      · rcases hr.simp.wn01 hr.area (off0 hx' hap.symm) with e | e
        · exact e
        · exact absurd e hz.2
    obtain ⟨i1, i2, i3⟩ := hoL_plg ho hs (pre ++ [h.map vP]) e (fun x hx => by
      rcases List.mem_append.1 hx with hx | hx
      · exact hpre x hx
      · rw [List.mem_singleton.1 hx]; exact hr)
    refine ⟨fun k hk => ?_, fun x hx k hk => ?_, ?_⟩
    · rw [List.map_cons] at hk
      rcases List.mem_cons.1 hk with rfl | hk
      · exact ⟨hr, ap.symm, ix (h.map vP) 0, ix_head hr, hin⟩
      · exact i1 k hk
    · rw [List.map_cons] at hk
      rcases List.mem_cons.1 hk with rfl | hk
      · exact asd x hx
      · exact i2 x (List.mem_append.2 (.inl hx)) k hk
    · rw [List.map_cons, List.pairwise_cons]
      exact ⟨fun k hk => i2 _ (List.mem_append.2 (.inr (List.mem_singleton.2 rfl))) k hk, i3⟩
theorem pgE_plg {o : List (RD × RD)} {hs : List (List (RD × RD))} (h : pgE o hs = 0) : Plg (o.map vP) (hs.map (List.map vP)) ∧ RgOk (o.map vP) ∧ ∀ x ∈ hs.map (List.map vP), RgOk x := by
  obtain ⟨z1, z2, z3, z4⟩ := pgE_zero h
  have ho : RgOk (o.map vP) := rgE_zero.1 (rgR_zero z1).2.1
  obtain ⟨i1, _, i3⟩ := hoL_plg ho hs [] z4 (by simp)
  exact ⟨⟨ho.simp, ho.area, fun h hh => (i1 h hh).1.simp, fun h hh => (i1 h hh).1.area, fun h hh => (i1 h hh).2, i3⟩, ho, fun x hx => (i1 x hx).1⟩
end Go.Nv
end
section
namespace Go.Nv
open Go.Proofs Nw
set_option maxRecDepth 100000
set_option linter.unusedVariables false
set_option linter.unusedSimpArgs false
def trP (v p : P2) : P2 := (p.1 + v.1, p.2 + v.2)
def trL (v : P2) (l : List P2) : List P2 := l.map (trP v)
def trE (v : P2) (e : P2 × P2) : P2 × P2 := (trP v e.1, trP v e.2)
theorem trP_inj {v p q : P2} : trP v p = trP v q ↔ p = q := by
  unfold trP
  constructor
  · intro h
    simp only [Prod.mk.injEq] at h
    exact Prod.ext (by grind) (by grind)
  · intro h; rw [h]
theorem tr_su (v p q : P2) : su (trP v p) (trP v q) = su p q := by
  unfold su trP; simp only [Prod.mk.injEq]; constructor <;> grind
theorem tr_orQ (v a b c : P2) : orQ (trP v a) (trP v b) (trP v c) = orQ a b c := by
  simp only [orQ, trP]; grind
theorem tr_orI (v a b c : P2) : orI (trP v a) (trP v b) (trP v c) = orI a b c := by unfold orI; rw [tr_orQ]
theorem tr_cmpI (p q a : Rat) : cmpI (p + a) (q + a) = cmpI p q := by
  rw [cmpI_eq, cmpI_eq]; unfold cmpQ
  have h1 : (p + a < q + a) ↔ p < q := by constructor <;> grind
  have h2 : (q + a < p + a) ↔ q < p := by constructor <;> grind
  simp only [h1, h2]
theorem tr_cmP (v p q : P2) : cmP (trP v p) (trP v q) = cmP p q := by
  unfold cmP trP; simp only [tr_cmpI]
theorem tr_lin (v p q : P2) (t : Rat) : lin (trP v p) (trP v q) t = trP v (lin p q t) := by
  simp only [lin, trP, Prod.mk.injEq]; constructor <;> grind
theorem tr_ordP (v a b : P2) : ordP (trP v a) (trP v b) = (trP v (ordP a b).1, trP v (ordP a b).2) := by
  unfold ordP; rw [tr_cmP]; split <;> rfl
theorem tr_gtrP (v a b : P2) : gtrP (trP v a) (trP v b) = trP v (gtrP a b) := by unfold gtrP; rw [tr_cmP]; split <;> rfl
theorem tr_lsrP (v a b : P2) : lsrP (trP v a) (trP v b) = trP v (lsrP a b) := by unfold lsrP; rw [tr_cmP]; split <;> rfl
theorem tr_mtQ (v a b c d : P2) : (mtQ (trP v a) (trP v b) (trP v c) (trP v d)).isSome = (mtQ a b c d).isSome := by
  unfold mtQ
  rw [tr_su, tr_su, tr_su]
  by_cases h1 : crQ (su b a) (su d c) = 0
  · rw [if_pos h1, if_pos h1]
    by_cases h2 : crQ (su b a) (su c a) = 0
    · rw [if_pos h2, if_pos h2, tr_ordP, tr_ordP]
      simp only [tr_gtrP, tr_lsrP, tr_cmP]
      split <;> rfl
    · rw [if_neg h2, if_neg h2]
  · rw [if_neg h1, if_neg h1]
    split <;> rfl
theorem tr_mtB (v a b c d : P2) : mtB (trP v a) (trP v b) (trP v c) (trP v d) = mtB a b c d := by
  unfold mtB; rw [tr_mtQ]; simp only [trP_inj]
theorem trL_len (v : P2) (l : List P2) : (trL v l).length = l.length := List.length_map ..
theorem tr_ix {v : P2} {l : List P2} (h : 0 < l.length) (i : Nat) : ix (trL v l) i = trP v (ix l i) := by
  rw [ix_mod (l := trL v l) (by rw [trL_len]; exact h), ix_mod h]
  simp only [trL_len]
  unfold trL; rw [List.getElem_map]
theorem tr_prs (v : P2) : ∀ (l : List P2) (a : P2), prs (trP v a) (trL v l) = (prs a l).map (trE v)
  | [], a => rfl
  | b :: l, a => by
    show (trP v a, trP v b) :: prs (trP v b) (trL v l) = trE v (a, b) :: (prs b l).map (trE v)
    rw [tr_prs v l b]; rfl
theorem tr_cyc (v : P2) (l : List P2) : cyc (trL v l) = (cyc l).map (trE v) := by
  cases l with
  | nil => rfl
  | cons a l =>
    show prs (trP v a) (trL v l ++ [trP v a]) = (prs a (l ++ [a])).map (trE v)
    rw [← tr_prs]; unfold trL; rw [List.map_append]; rfl
theorem sumE_map (f : P2 → P2 → Rat) (v : P2) : ∀ E : List (P2 × P2), sumE f (E.map (trE v)) = sumE (fun p q => f (trP v p) (trP v q)) E
  | [] => rfl
  | e :: E => by simp only [List.map_cons, sumE]; rw [sumE_map f v E]; rfl
theorem tr_ar (v : P2) (l : List P2) : tot ar (trL v l) = tot ar l := by
  have e := tr_cyc v l
  unfold tot
  rw [e, sumE_map]
  have c : Cob (fun p q => ar (trP v p) (trP v q)) ar := ⟨fun p => v.1 * p.2 - v.2 * p.1, fun p q => by simp only [ar, trP]; grind⟩
  exact c.sum (cyc_clo l)
theorem tr_crQ (v : P2) (l : List P2) : tot crQ (trL v l) = tot crQ l := tr_ar v l
theorem tr_flB {v : P2} {l : List P2} (h : 0 < l.length) (i : Nat) : flB (trL v l) i = flB l i := by
  unfold flB; rw [trL_len, tr_ix h, tr_ix h, tr_ix h, tr_orI]
theorem tr_xB {v : P2} {l : List P2} (h : 0 < l.length) (i k : Nat) : xB (trL v l) i k = xB l i k := by
  unfold xB ed; rw [trL_len, tr_ix h, tr_ix h, tr_ix h, tr_ix h, tr_mtB]
theorem tr_crB {v : P2} {l : List P2} (h : 0 < l.length) : crB (trL v l) = crB l := by
  unfold crB; rw [trL_len]
  simp only [tr_xB h]
theorem tr_kf {v : P2} {l : List P2} (h : 0 < l.length) : ∀ i, kf (trL v l) i = kf l i
  | 0 => rfl
  | i + 1 => by
    unfold kf
    rw [tr_kf h i, tr_ix h, tr_ix h, tr_cmP]
theorem RgOk.tr {l : List P2} (h : RgOk l) (v : P2) : RgOk (trL v l) := by
  have h0 : 0 < l.length := by have := h.len; omega
  refine ⟨by rw [trL_len]; exact h.len, fun i hi => ?_, ?_, ?_, ?_⟩
  · rw [tr_flB h0]; exact h.fl i (by rw [trL_len] at hi; exact hi)
  · rw [tr_crB h0]; exact h.cr
  · rw [tr_crQ]; exact h.pos
  · rw [trL_len, tr_kf h0]; exact h.fst
theorem tr_betB (v a b p : P2) : betB (trP v a) (trP v b) (trP v p) = betB a b p := by
  unfold betB; rw [tr_orI, tr_cmP, tr_cmP, tr_cmP]
theorem tr_onB (v : P2) (l : List P2) (p : P2) : onB (trL v l) (trP v p) = onB l p := by
  unfold onB; rw [tr_cyc, List.any_map]
  congr 1
  funext e
  exact tr_betB v e.1 e.2 p
theorem tr_abB (v p q : P2) : abB (trP v p) (trP v q) = abB p q := by unfold abB trP; simp only [tr_cmpI]
theorem tr_odE (v p : P2) (e : P2 × P2) : odE (trP v p) (trE v e) = odE p e := by
  have hs : swE (trP v p) (trE v e) = trE v (swE p e) := by
    unfold swE trE
    simp only [tr_abB]
    split <;> rfl
  unfold odE
  rw [hs]
  unfold trE
  simp only [tr_abB, tr_orI]
theorem tr_odB (v : P2) (l : List P2) (p : P2) : odB (trL v l) (trP v p) = odB l p := by
  unfold odB; rw [tr_cyc, List.foldl_map]
  congr 1
  funext b e
  unfold odF; rw [tr_odE]
theorem tr_inV {v : P2} {l : List P2} (h : RgOk l) (p : P2) : inV (trL v l) (trP v p) = inV l p := by
  have z := rgE_zero.2 h
  have z' := rgE_zero.2 (h.tr v)
  unfold inV; rw [z, z', tr_onB, tr_odB]
theorem tr_inE {v : P2} {l : List P2} (h : RgOk l) : inE (trL v l) = inE l := by
  have z := rgE_zero.2 h
  have z' := rgE_zero.2 (h.tr v)
  unfold inE; rw [z, z']
theorem tr_mtR (v : P2) (a b : List P2) : mtR (trL v a) (trL v b) = mtR a b := by
  unfold mtR; rw [tr_cyc, tr_cyc, List.any_map]
  congr 1
  funext e
  simp only [Function.comp, List.any_map]
  congr 1
  funext f
  exact tr_mtB v e.1 e.2 f.1 f.2
theorem tr_wiB {v : P2} {a b : List P2} (ha : RgOk a) (hb : RgOk b) : wiB (trL v a) (trL v b) = wiB a b := by
  unfold wiB; rw [tr_ix (by have := ha.len; omega), tr_inV hb, tr_inE hb]
theorem any_congr {α : Type} {l : List α} {f g : α → Bool} (h : ∀ x ∈ l, f x = g x) : l.any f = l.any g := by
  induction l with
  | nil => rfl
  | cons a l ih => simp only [List.any_cons]; rw [h a (by simp), ih (fun x hx => h x (by simp [hx]))]
theorem tr_hoE {v : P2} {o : List P2} {pre : List (List P2)} {h : List P2} (ho : RgOk o) (hp : ∀ x ∈ pre, RgOk x) (hh : RgOk h) : hoE (trL v o) (pre.map (trL v)) (trL v h) = hoE o pre h := by
  have e1 : (pre.map (trL v)).any (fun x => mtR (trL v h) x) = pre.any (fun x => mtR h x) := by
    rw [List.any_map]; exact any_congr fun x hx => tr_mtR v h x
  have e2 : (pre.map (trL v)).any (fun x => wiB (trL v h) x || wiB x (trL v h)) = pre.any (fun x => wiB h x || wiB x h) := by
    rw [List.any_map]; exact any_congr fun x hx => by simp only [Function.comp]; rw [tr_wiB hh (hp x hx), tr_wiB (hp x hx) hh]
  have e3 : 0 < pre.length → cmP (ix ((pre.map (trL v)).getD (pre.length - 1) []) 0) (ix (trL v h) 0) = cmP (ix (pre.getD (pre.length - 1) []) 0) (ix h 0) := fun h0 => by
    have hl : pre.length - 1 < pre.length := by omega
    rw [List.getD_eq_getElem?_getD, List.getD_eq_getElem?_getD, List.getElem?_map, List.getElem?_eq_getElem hl]
    simp only [Option.map_some, Option.getD_some]
    rw [tr_ix (by have := (hp _ (List.getElem_mem hl)).len; omega), tr_ix (by have := hh.len; omega), tr_cmP]
  unfold hoE
  rw [tr_mtR, tr_wiB hh ho, e1, e2, List.length_map]
  by_cases h0 : 0 < pre.length
  · rw [e3 h0]
  · simp only [h0, false_and]
theorem rgR_cP (l : List P2) : rgR (l.map cP) = rgE l := by
  have hl : (l.map cP).length = l.length := List.length_map ..
  unfold rgR
  rw [all_cP, if_pos rfl, vP_map, hl]
  by_cases h : l.length < 3 ∨ 64 < l.length
  · rw [if_pos h]; unfold rgE; rw [if_pos h]
  · rw [if_neg h]
theorem tr_hoL {v : P2} {o : List P2} (ho : RgOk o) : ∀ (hs : List (List (RD × RD))) (pre : List (List P2)), hoL o pre hs = 0 → (∀ x ∈ pre, RgOk x) →
    hoL (trL v o) (pre.map (trL v)) (hs.map fun h => (trL v (h.map vP)).map cP) = 0
  | [], pre, _, _ => rfl
  | h :: hs, pre, e, hp => by
    rw [hoL] at e
    split at e
    · rename_i h1; exact absurd e h1
    rename_i h1
    split at e
    · rename_i h2; exact absurd e h2
    rename_i h2
    have h1 : rgR h = 0 := Classical.not_not.1 h1
    have h2 : hoE o pre (h.map vP) = 0 := Classical.not_not.1 h2
    have hr : RgOk (h.map vP) := rgE_zero.1 (rgR_zero h1).2.1
    have ih := tr_hoL (v := v) ho hs (pre ++ [h.map vP]) e (fun x hx => by
      rcases List.mem_append.1 hx with hx | hx
      · exact hp x hx
      · rw [List.mem_singleton.1 hx]; exact hr)
    rw [List.map_cons, hoL, rgR_cP, rgE_zero.2 (hr.tr v), vP_map, tr_hoE ho hp hr, h2]
    simp only [ne_eq, not_true_eq_false, if_false]
    rw [List.map_append] at ih
    exact ih
theorem tr_pgE {v : P2} {o : List (RD × RD)} {hs : List (List (RD × RD))} (h : pgE o hs = 0) : pgE ((trL v (o.map vP)).map cP) (hs.map fun h => (trL v (h.map vP)).map cP) = 0 := by
  obtain ⟨z1, z2, z3, z4⟩ := pgE_zero h
  have ho : RgOk (o.map vP) := rgE_zero.1 (rgR_zero z1).2.1
  unfold pgE
  rw [rgR_cP, rgE_zero.2 (ho.tr v), vP_map, List.length_map, if_neg (by simp), if_neg (by omega)]
  exact tr_hoL ho hs [] z4 (by simp)
def Hf.tr (H : Hf) (v : P2) : Hf := ⟨H.ax, H.up, H.c + (if H.ax then v.1 else v.2)⟩
theorem tr_s (H : Hf) (v p : P2) : (Hf.tr H v).s (trP v p) = H.s p := by
  obtain ⟨ax, up, c⟩ := H
  cases ax <;> cases up <;> simp [Hf.tr, Hf.s, trP] <;> grind
theorem tr_crs (H : Hf) (v p q : P2) : crs (Hf.tr H v) (trP v p) (trP v q) = trP v (crs H p q) := by
  unfold crs; rw [tr_s, tr_s, tr_lin]
theorem tr_cutE (H : Hf) (v : P2) (e : P2 × P2) : cutE (Hf.tr H v) (trE v e) = trL v (cutE H e) := by
  unfold cutE trE trL
  simp only [tr_s, tr_crs, List.map_append]
  congr 1
  · split <;> rfl
  · split <;> rfl
theorem tr_cut (H : Hf) (v : P2) (l : List P2) : cut (Hf.tr H v) (trL v l) = trL v (cut H l) := by
  unfold cut
  rw [tr_cyc]
  generalize cyc l = E
  unfold trL
  induction E with
  | nil => rfl
  | cons e E ih =>
    simp only [List.map_cons, List.flatMap_cons, List.map_append]
    rw [ih, tr_cutE]; rfl
theorem tr_boxA (x0 y0 x1 y1 : Rat) (v : P2) (l : List P2) : boxA (x0 + v.1) (y0 + v.2) (x1 + v.1) (y1 + v.2) (trL v l) = boxA x0 y0 x1 y1 l := by
  unfold boxA box4
  have e1 := tr_cut ⟨true, true, x0⟩ v
  have e2 := tr_cut ⟨true, false, x1⟩ v
  have e3 := tr_cut ⟨false, true, y0⟩ v
  have e4 := tr_cut ⟨false, false, y1⟩ v
  simp only [Hf.tr, if_true, Bool.false_eq_true, if_false] at e1 e2 e3 e4
  rw [e1, e2, e3, e4, tr_ar]
theorem tr_cvQ (x0 y0 x1 y1 : Rat) (v : P2) (o : List P2) (hs : List (List P2)) : cvQ (x0 + v.1) (y0 + v.2) (x1 + v.1) (y1 + v.2) (trL v o) (hs.map (trL v)) = cvQ x0 y0 x1 y1 o hs := by
  have a1 : (x1 + v.1 - (x0 + v.1)) = x1 - x0 := by grind
  have a2 : (y1 + v.2 - (y0 + v.2)) = y1 - y0 := by grind
  unfold cvQ cvS wiQ
  rw [a1, a2, List.foldl_map]
  simp only [tr_boxA]
theorem tr_cvP (x0 y0 x1 y1 : Rat) (c r : Int) (v : P2) (o : List P2) (hs : List (List P2)) (j : Nat) : cvP (x0 + v.1) (y0 + v.2) (x1 + v.1) (y1 + v.2) c r (trL v o) (hs.map (trL v)) j = cvP x0 y0 x1 y1 c r o hs j := by
  have ex : ∀ i, pxX (x0 + v.1) (x1 + v.1) c i = pxX x0 x1 c i + v.1 := fun i => by unfold pxX; grind
  have ey : ∀ i, pxY (y0 + v.2) (y1 + v.2) r i = pxY y0 y1 r i + v.2 := fun i => by unfold pxY; grind
  unfold cvP pxQ
  simp only [ex, ey]
  exact tr_cvQ _ _ _ _ v o hs
end Go.Nv
end
section
namespace Go.Nv
open Go.Proofs Nw
set_option maxRecDepth 100000
set_option linter.unusedVariables false
set_option linter.unusedSimpArgs false
theorem cloneP_c (l : List P2) (hl : l.length ≤ 1000000) : Fun Tryz.prog 346 [.l (pL l)] [.l (pL l)] := funO_fun (clone_c (pL l) (pL_uni l) (by simpa using hl)) (pL_uni l) (by decide)
theorem rm_c {a p b : P2} {n : Nat} (ha : BP n a) (hp : BP n p) (hb : BP n b) (hn : n < 1000000) : Fun Tryz.prog 329 [pD a, pD p, pD b] [.v (.bool (decide (p = b) || decide (orI a p b = 0)))] := by
  refine fun_of_go (fun t => false) mixed tOk Tryz.func329 rfl rfl ?_
  conv => whnf
  have hpe : eqDs (List.take ti29.cells (List.drop 0 (pD p).cells)) (List.take ti29.cells (List.drop 0 (pD b).cells)) = decide (p.1 = b.1 ∧ p.2 = b.2) := eqDs_ptq _ _ _ _
  rw [hpe]
  generalize hb0 : bz (decide (p.1 = b.1 ∧ p.2 = b.2)) = z
  rw [bz_eq] at hb0
  cases z with
  | true =>
    have h1 : p = b := pt_eq.1 (of_decide_eq_true hb0)
    conv => whnf
    refine ⟨?_, trivial⟩
    conv => whnf
    rw [decide_eq_true h1]; rfl
  | false =>
    have h1 : p ≠ b := fun h => of_decide_eq_false hb0 (pt_eq.2 h)
    conv => whnf
    refine call_data rfl rfl (orient_c ha.1 ha.2 hp.1 hp.2 hb.1 hb.2 (by omega)) ?_
    conv => whnf
    refine ⟨?_, trivial⟩
    conv => whnf
    rw [decide_eq_false h1, bz_eq, Bool.false_or]; rfl
theorem simplify_c {l : List P2} {n : Nat} (hr : RgOk l) (hl : ∀ p ∈ l, BP n p) (hn : n < 1000000) : Fun Tryz.prog 328 [.l (pL l), .f 329 []] [.l (pL l)] := by
  have hlen := hr.len
  have hll : (pL l).length = l.length := by simp
  refine fun_of_go (fun t => false) mixed tOk Tryz.func328 rfl rfl ?_
  conv => whnf
  refine okc_scope (fun t => false) mixed tOk ?_
  conv => whnf
  refine call_data rfl rfl (cloneP_c l (by omega)) ?_
  conv => whnf
  refine okc_label ?_
  conv => whnf
  refine loop_intro (fun t => false) (fun i : Nat => ⟨fr 48 [(0, .d (.l (pL l))), (1, .d (.f 329 [])), (5, .d (i64 (pL l).length)), (6, .d (i64 i))], []⟩) (fun i => i ≤ l.length) (fun i => l.length - i) 0 mixed tOk (by omega) ?_ ?_
  · refine weak_dead 0 rfl ?_
    refine weak_r ?_ ?_ <;> repeat' (first | exact trivial | exact rfl | refine And.intro ?_ ?_)
  · intro i hi
    have h0 : 0 < l.length := by omega
    conv => whnf
    refine cond_dt (by omega) ?_
    conv => whnf
    refine cond_d (fun hlt => ?_) (fun hge => ?_)
    · have hlt' : i < l.length := by omega
      have e1 : ((i : Int) + ((pL l).length : Int) - 1) = ((i + l.length - 1 : Nat) : Int) := by omega
      have e2 : ((i : Int) + 1) = ((i + 1 : Nat) : Int) := rfl
      have hq := fun j => hl _ (ix_mem h0 (k := j))
      have hrm := rm_c (hq (i + l.length - 1)) (hq i) (hq (i + 1)) (by omega)
      have hf := hr.fl i hlt'
      unfold flB at hf
      rw [show (decide (ix l i = ix l (i + 1)) || decide (orI (ix l (i + l.length - 1)) (ix l i) (ix l (i + 1)) = 0)) = false by rw [hf, decide_eq_false (hr.ne i)]; rfl] at hrm
      conv => whnf
      refine sd_d (by omega) ?_
      conv => whnf
      refine sd_d (by omega) ?_
      conv => whnf
      refine sd_d (by omega) ?_
      conv => whnf
      refine idx_intro (pD (ix l (i + l.length - 1))) (by rw [e1]; exact ix_get h0) (by rw [e1, pL_len, tmod_nat]; omega) (pL_uni l) ?_
      conv => whnf
      refine idx_intro (pD (ix l i)) (ix_at hlt') (by omega) (pL_uni l) ?_
      conv => whnf
      refine sd_d (by omega) ?_
      conv => whnf
      refine sd_d (by omega) ?_
      conv => whnf
      refine idx_intro (pD (ix l (i + 1))) (by rw [e2]; exact ix_get h0) (by rw [e2, pL_len, tmod_nat]; omega) (pL_uni l) ?_
      conv => whnf
      refine callv_data hrm ?_
      conv => whnf
      refine safe_intro (by kernel_rfl) ?_
      conv => whnf
      refine sd_d (by omega) ?_
      conv => whnf
      refine ⟨i + 1, by omega, by omega, ?_⟩
      rw [Int.natCast_succ]
      refine weak_r ?_ ?_ <;> repeat' (first | exact trivial | exact rfl | refine And.intro ?_ ?_)
    · have : i = l.length := by omega
      subst this
      conv => whnf
      refine ⟨?_, trivial⟩
      conv => whnf
theorem concat_c (a b : List P2) (ha : a.length ≤ 1000) (hb : b.length ≤ 1000) : Fun Tryz.prog 331 [.l [.l (pL a), .l (pL b)]] [.l (pL (a ++ b))] := by
  have hla : (pL a).length = a.length := by simp
  have hlb : (pL b).length = b.length := by simp
  refine fun_of_go (fun t => t == 6) mixed tOk Tryz.func331 rfl rfl ?_
  conv => whnf
  refine unroll 3 (fun t => t == 6) mixed tOk ?_
  conv => whnf
  have hu2 : Uni 1 [D.l (pL a), D.l (pL b)] := by intro x hx; simp at hx; rcases hx with rfl | rfl <;> rfl
  refine cond_dt (by show ((0 : Int)) < ((2 : Nat) : Int); omega) ?_
  conv => whnf
  refine idx_intro (.l (pL a)) rfl (by omega) hu2 ?_
  conv => whnf
  refine sd_d (by omega) ?_
  conv => whnf
  refine cond_df (by omega) ?_
  conv => whnf
  refine sd_d (by omega) ?_
  conv => whnf
  refine cond_dt (by show ((0 + 1 : Int)) < ((2 : Nat) : Int); omega) ?_
  conv => whnf
  refine idx_intro (.l (pL b)) rfl (by omega) hu2 ?_
  conv => whnf
  refine sd_d (by omega) ?_
  conv => whnf
  refine cond_df (by omega) ?_
  conv => whnf
  refine sd_d (by omega) ?_
  conv => whnf
  refine cond_df (by show ¬ ((0 + 1 + 1 : Int)) < ((2 : Nat) : Int); omega) ?_
  conv => whnf
  have hg := grow_c (a.length + b.length) (by omega)
  rw [show ((a.length + b.length : Nat) : Int) = 0 + ((pL a).length : Int) + ((pL b).length : Int) by omega] at hg
  refine call_fresh_nil (bytes := 80) rfl hg ?_
  conv => whnf
  refine unroll 3 (fun t => t == 6) mixed tOk ?_
  conv => whnf
  refine cond_dt (by show ((0 : Int)) < ((2 : Nat) : Int); omega) ?_
  conv => whnf
  refine idx_intro (.l (pL a)) rfl (by omega) hu2 ?_
  conv => whnf
  refine sd_app (by intro x hx; simp at hx) (pL_uni a) (by simp only [maxLen, List.length_nil]; omega) ?_
  conv => whnf
  refine sd_d (by omega) ?_
  conv => whnf
  refine cond_dt (by show ((0 + 1 : Int)) < ((2 : Nat) : Int); omega) ?_
  conv => whnf
  refine idx_intro (.l (pL b)) rfl (by omega) hu2 ?_
  conv => whnf
  refine sd_app (by simp only [List.nil_append]; exact pL_uni a) (pL_uni b) (by simp only [maxLen, List.length_nil, List.nil_append]; omega) ?_
  conv => whnf
  refine sd_d (by omega) ?_
  conv => whnf
  refine cond_df (by show ¬ ((0 + 1 + 1 : Int)) < ((2 : Nat) : Int); omega) ?_
  conv => whnf
  refine ⟨?_, trivial⟩
  conv => whnf
  simp [pL]
theorem rcanonical_c {l : List P2} {n : Nat} (hr : RgOk l) (hl : ∀ p ∈ l, BP n p) (hn : n < 1000000) : Fun Tryz.prog 280 [.l (pL l)] [.l (pL l), i64 0] := by
  have hlen := hr.len
  have hll : (pL l).length = l.length := by simp
  have hta : Bd (1000 * (4 * n + 2) + 1) (tot crQ l / 2) := by
    have := area_bd hl l.length (Nat.le_refl _)
    rw [tot_all] at this
    refine (this.div (bd_int 2 (n := 1) (by decide))).mono ?_
    have : l.length * (4 * n + 2) ≤ 1000 * (4 * n + 2) := Nat.mul_le_mul_right _ (by omega)
    omega
  have hk : kf l l.length = 0 := hr.fst
  have hfc := first_c l hl (by omega) (by omega)
  rw [hk] at hfc
  have hcc := crossing_c l hl (by omega) (by omega)
  rw [hr.cr] at hcc
  have hpos := tot_div.2 hr.pos
  refine fun_of_go (fun t => false) mixed tOk Tryz.func280 rfl rfl ?_
  conv => whnf
  refine cond_df (by omega) ?_
  conv => whnf
  refine call_data rfl rfl (rcanon_q l hl hn (by omega)) ?_
  conv => whnf
  refine call_data rfl rfl (simplify_c hr hl hn) ?_
  conv => whnf
  refine cond_df (by omega) ?_
  conv => whnf
  refine call_data rfl rfl hcc ?_
  conv => whnf
  refine call_data rfl rfl (area_c l hl (by omega) (by omega)) ?_
  conv => whnf
  refine call_data rfl rfl (sign_q (.mk hta (by omega))) ?_
  conv => whnf
  refine cond_df (by omega) ?_
  conv => whnf
  refine call_data rfl rfl hfc ?_
  conv => whnf
  refine sd_du (by omega) (pL_uni l) ?_
  conv => whnf
  refine sd_du (by omega) (pL_uni l) ?_
  conv => whnf
  have hcat := concat_c l [] (by omega) (by simp)
  rw [List.append_nil] at hcat
  refine callv_eq hcat (by simp [subL, pL, List.take_of_length_le]) ?_
  conv => whnf
  refine safe_intro (by kernel_rfl) ?_
  conv => whnf
  refine ⟨?_, ?_, trivial⟩
  · conv => whnf
  · conv => whnf
end Go.Nv
end
