import Derived.Test.YtdjbkccoofcnjaaGreatNvD4
set_option linter.all false
set_option linter.unusedVariables false
set_option linter.unusedSimpArgs false
section
namespace Go.Nv
open Go.Proofs Nw
set_option maxRecDepth 100000
set_option linter.unusedVariables false
set_option linter.unusedSimpArgs false
theorem cmpI_pos {p q : Rat} : 0 < cmpI p q ↔ q < p := by
  have := cmpI_le (p := p) (q := q)
  constructor
  · intro h
    have h1 : ¬ p ≤ q := fun h2 => by have := this.2 h2; omega
    grind
  · intro h
    have h1 : ¬ cmpI p q ≤ 0 := fun h2 => by have := this.1 h2; grind
    omega
theorem abB_iff {p q : P2} : abB p q = true ↔ p.2 < q.2 := by unfold abB; rw [decide_eq_true_eq, cmpI_pos]
theorem orI_pos {a b c : P2} : 0 < orI a b c ↔ 0 < orQ a b c := by
  unfold orI; rw [sgnI_eq]; unfold sgnQ
  by_cases h1 : orQ a b c < 0
  · rw [if_pos h1]; constructor <;> intro h
    · exact absurd h (by decide)
    · grind
  · rw [if_neg h1]
    by_cases h2 : 0 < orQ a b c
    · rw [if_pos h2]; exact ⟨fun _ => h2, fun _ => by decide⟩
    · rw [if_neg h2]; constructor <;> intro h
      · exact absurd h (by decide)
      · exact absurd h h2
theorem odE_iff {p : P2} {e : P2 × P2} : odE p e = true ↔ crI e.1 e.2 p ≠ 0 := by
  unfold odE swE crI
  by_cases h1 : abB p e.1 = true
  · rw [if_pos h1]
    have h1' := abB_iff.1 h1
    rw [if_neg (by grind), Bool.and_eq_true, Bool.and_eq_true, decide_eq_true_eq, orI_pos, abB_iff, Bool.not_eq_true', ← Bool.not_eq_true, abB_iff]
    simp only
    by_cases h2 : e.2.2 ≤ p.2 ∧ p.2 < e.1.2 ∧ 0 < orQ e.2 e.1 p
    · rw [if_pos h2]; exact ⟨fun _ => by decide, fun _ => ⟨by grind, h2.2⟩⟩
    · rw [if_neg h2]; exact ⟨fun h => absurd ⟨by grind, h.2⟩ h2, fun h => absurd rfl h⟩
  · rw [if_neg h1]
    have h1' : ¬ p.2 < e.1.2 := fun h => h1 (abB_iff.2 h)
    rw [Bool.and_eq_true, Bool.and_eq_true, decide_eq_true_eq, orI_pos, abB_iff, Bool.not_eq_true', ← Bool.not_eq_true, abB_iff]
    by_cases h2 : e.1.2 ≤ p.2 ∧ p.2 < e.2.2 ∧ 0 < orQ e.1 e.2 p
    · rw [if_pos h2]; exact ⟨fun _ => by decide, fun _ => ⟨h1', h2.2⟩⟩
    · rw [if_neg h2, if_neg (by grind)]; exact ⟨fun h => absurd ⟨by grind, h.2⟩ h2, fun h => absurd rfl h⟩
theorem crI_rng (u v p : P2) : crI u v p = 0 ∨ crI u v p = 1 ∨ crI u v p = -1 := by
  unfold crI
  split
  · exact .inr (.inl rfl)
  · split
    · exact .inr (.inr rfl)
    · exact .inl rfl
theorem par_step (b o : Bool) (c s : Int) (r : c = 0 ∨ c = 1 ∨ c = -1) (h : o = true ↔ c ≠ 0) : ((if o = true then !b else b) ^^ decide (s % 2 ≠ 0)) = (b ^^ decide ((c + s) % 2 ≠ 0)) := by
  by_cases hs : s % 2 = 0
  · rw [decide_eq_false (show ¬ s % 2 ≠ 0 by omega)]
    rcases r with r | r | r
    · have : o = false := by cases o with
        | false => rfl
        | true => exact absurd r (h.1 rfl)
      rw [this, r, decide_eq_false (show ¬ (0 + s) % 2 ≠ 0 by omega)]; cases b <;> rfl
    · rw [h.2 (by omega), r, decide_eq_true (show (1 + s) % 2 ≠ 0 by omega)]; cases b <;> rfl
    · rw [h.2 (by omega), r, decide_eq_true (show (-1 + s) % 2 ≠ 0 by omega)]; cases b <;> rfl
  · rw [decide_eq_true (show s % 2 ≠ 0 by omega)]
    rcases r with r | r | r
    · have : o = false := by cases o with
        | false => rfl
        | true => exact absurd r (h.1 rfl)
      rw [this, r, decide_eq_true (show (0 + s) % 2 ≠ 0 by omega)]; cases b <;> rfl
    · rw [h.2 (by omega), r, decide_eq_false (show ¬ (1 + s) % 2 ≠ 0 by omega)]; cases b <;> rfl
    · rw [h.2 (by omega), r, decide_eq_false (show ¬ (-1 + s) % 2 ≠ 0 by omega)]; cases b <;> rfl
theorem od_fold (p : P2) : ∀ (E : List (P2 × P2)) (b : Bool), E.foldl (odF p) b = (b ^^ decide ((sumZ (fun u v => crI u v p) E) % 2 ≠ 0))
  | [], b => by simp [sumZ]
  | e :: E, b => by
    rw [List.foldl_cons, od_fold p E]
    unfold odF
    exact par_step b _ _ _ (crI_rng e.1 e.2 p) odE_iff
theorem odB_wn (l : List P2) (p : P2) : odB l p = decide (wn l p % 2 ≠ 0) := by
  unfold odB
  rw [od_fold]; simp only [Bool.false_xor]; rfl
theorem bet_line {a b p : P2} (hab : a ≠ b) (ho : orQ a b p = 0) (h1 : leP a p) (h2 : leP p b) : ∃ t : Rat, 0 ≤ t ∧ t ≤ 1 ∧ lin a b t = p := by
  unfold leP at h1 h2
  simp only [orQ] at ho
  by_cases hx : a.1 = b.1
  · have hy : a.2 ≠ b.2 := fun h => hab (Prod.ext hx h)
    have hz : (b.2 - a.2) * (p.1 - a.1) = 0 := by rw [hx] at ho ⊢; grind
    have hpx : p.1 = a.1 := by
      rcases Rat.mul_eq_zero.1 hz with h | h
      · exact absurd (by grind) hy
      · grind
    have y1 : a.2 ≤ p.2 := by grind
    have y2 : p.2 ≤ b.2 := by grind
    obtain ⟨t0, t1⟩ := div_unit (x := p.2 - a.2) (y := b.2 - a.2) (by grind) (by grind) (by grind)
    refine ⟨_, t0, t1, Prod.ext ?_ ?_⟩
    · simp only [lin]; rw [hx, hpx]; grind
    · simp only [lin]
      have : b.2 - a.2 ≠ 0 := by grind
      grind
  · have x1 : a.1 ≤ p.1 := by grind
    have x2 : p.1 ≤ b.1 := by grind
    obtain ⟨t0, t1⟩ := div_unit (x := p.1 - a.1) (y := b.1 - a.1) (by grind) (by grind) (by grind)
    have hn : b.1 - a.1 ≠ 0 := by grind
    refine ⟨_, t0, t1, Prod.ext ?_ ?_⟩
    · simp only [lin]; grind
    · simp only [lin]; grind
theorem cmP_zero {p q : P2} : cmP p q = 0 ↔ p = q := by
  unfold cmP
  by_cases h : cmpI p.1 q.1 = 0
  · rw [if_pos h, cmpI_zero]
    have := cmpI_zero.1 h
    exact ⟨fun h2 => Prod.ext this h2, fun h2 => by rw [h2]⟩
  · rw [if_neg h]
    exact ⟨fun h2 => absurd h2 h, fun h2 => absurd (cmpI_zero.2 (by rw [h2])) h⟩
theorem bet_on {a b p : P2} (hab : a ≠ b) : betB a b p = true ↔ ∃ t : Rat, 0 ≤ t ∧ t ≤ 1 ∧ lin a b t = p := by
  unfold betB
  rw [Bool.and_eq_true, Bool.and_eq_true, Bool.or_eq_true, decide_eq_true_eq, decide_eq_true_eq, decide_eq_true_eq, decide_eq_true_eq, orI_zero]
  constructor
  · rintro ⟨ho, hp, _⟩
    rcases cmP_rng a p with h1 | h1 | h1 <;> rcases cmP_rng p b with h2 | h2 | h2
    · exact bet_line hab ho (cmP_le.1 (by omega)) (cmP_le.1 (by omega))
    · exact ⟨1, by grind, by grind, by rw [lin_one]; exact (cmP_zero.1 h2).symm⟩
    · rw [h1, h2] at hp; exact absurd hp (by decide)
    · exact ⟨0, by grind, by grind, by rw [lin_zero]; exact cmP_zero.1 h1⟩
    · exact ⟨0, by grind, by grind, by rw [lin_zero]; exact cmP_zero.1 h1⟩
    · exact ⟨0, by grind, by grind, by rw [lin_zero]; exact cmP_zero.1 h1⟩
    · rw [h1, h2] at hp; exact absurd hp (by decide)
    · exact ⟨1, by grind, by grind, by rw [lin_one]; exact (cmP_zero.1 h2).symm⟩
    · have k1 : leP p a := leP_not fun h => by have := cmP_le.2 h; omega
      have k2 : leP b p := leP_not fun h => by have := cmP_le.2 h; omega
      obtain ⟨t, t0, t1, e⟩ := bet_line (a := b) (b := a) (fun h => hab h.symm) (by simp only [orQ] at ho ⊢; grind) k2 k1
      exact ⟨1 - t, by grind, by grind, by rw [← e]; exact (lin_swap a b t).symm⟩
  · rintro ⟨t, t0, t1, rfl⟩
    refine ⟨by simp only [orQ, lin]; grind, ?_, .inl fun h => hab (cmP_zero.1 h)⟩
    rcases leP_total a b with h | h
    · obtain ⟨k1, k2⟩ := leP_lin h t0 t1
      have c1 := cmP_le.2 k1
      have c2 := cmP_le.2 k2
      rcases cmP_rng a (lin a b t) with h1 | h1 | h1 <;> rcases cmP_rng (lin a b t) b with h2 | h2 | h2 <;> rw [h1, h2] <;> first | decide | omega
    · obtain ⟨k1, k2⟩ := leP_lin h (t := 1 - t) (by grind) (by grind)
      rw [lin_swap] at k1 k2
      have e : (1 : Rat) - (1 - t) = t := by grind
      rw [e] at k1 k2
      -- a point not greater, and not less
      have g1 : cmP a (lin a b t) = 0 ∨ 0 < cmP a (lin a b t) := by
        rcases cmP_rng a (lin a b t) with h1 | h1 | h1
        · have := cmP_le.1 (show cmP a (lin a b t) ≤ 0 by omega)
          have : a = lin a b t := by
            unfold leP at this k2
            generalize lin a b t = z at *
            exact Prod.ext (by grind) (by grind)
          exact .inl (cmP_zero.2 this)
        · exact .inl h1
        · exact .inr (by omega)
      have g2 : cmP (lin a b t) b = 0 ∨ 0 < cmP (lin a b t) b := by
        rcases cmP_rng (lin a b t) b with h1 | h1 | h1
        · have := cmP_le.1 (show cmP (lin a b t) b ≤ 0 by omega)
          have : lin a b t = b := by
            unfold leP at this k1
            generalize lin a b t = z at *
            exact Prod.ext (by grind) (by grind)
          exact .inl (cmP_zero.2 this)
        · exact .inl h1
        · exact .inr (by omega)
      rcases g1 with g1 | g1
      · rw [g1]; omega
      · rcases g2 with g2 | g2
        · rw [g2]; omega
        · exact Int.mul_nonneg (by omega) (by omega)
theorem RgOk.edge_ne {l : List P2} (h : RgOk l) {e : P2 × P2} (he : e ∈ cyc l) : e.1 ≠ e.2 := by
  obtain ⟨i, hi, rfl⟩ := mem_ed he
  exact h.ne i
theorem RgOk.onB {l : List P2} (h : RgOk l) (p : P2) : onB l p = false ↔ offL l p := by
  unfold Nv.onB
  rw [List.any_eq_false]
  constructor
  · intro ho e he t t0 t1 heq
    exact ho e he ((bet_on (h.edge_ne he)).2 ⟨t, t0, t1, heq⟩)
  · intro ho e he hb
    obtain ⟨t, t0, t1, heq⟩ := (bet_on (h.edge_ne he)).1 hb
    exact ho e he t t0 t1 heq
theorem RgOk.inV {l : List P2} (h : RgOk l) (p : P2) : (inV l p = 0 ∧ ¬ offL l p) ∨ (inV l p = 1 ∧ offL l p ∧ wn l p = 1) ∨ (inV l p = -1 ∧ offL l p ∧ wn l p = 0) := by
  have hz : rgE l = 0 := rgE_zero.2 h
  unfold Nv.inV
  rw [if_neg (fun hh => hh hz)]
  by_cases ho : Nv.onB l p = true
  · rw [if_pos ho]; left
    refine ⟨rfl, fun hoff => ?_⟩
    rw [(h.onB p).2 hoff] at ho; exact absurd ho (by decide)
  · rw [if_neg ho]
    have hoff := (h.onB p).1 (by simpa using ho)
    right
    rcases h.simp.wn01 h.area hoff with e | e
    · right
      rw [odB_wn, e, if_neg (by decide)]
      exact ⟨rfl, hoff, rfl⟩
    · left
      rw [odB_wn, e, if_pos (by decide)]
      exact ⟨rfl, hoff, rfl⟩
theorem mtR_apart {a b : List P2} (ha : RgOk a) (hb : RgOk b) (h : mtR a b = false) : Apart a b := by
  unfold mtR at h
  rw [List.any_eq_false] at h
  intro e he f hf
  have h1 := h e he
  rw [Bool.not_eq_true, List.any_eq_false] at h1
  have h2 := h1 f hf
  exact mtB_false (by simpa using h2) (ha.edge_ne he) (hb.edge_ne hf)
theorem ix_head {l : List P2} (h : RgOk l) : ix l 0 ∈ l := ix_mem (by have := h.len; omega)
theorem wiB_iff {a b : List P2} (ha : RgOk a) (hb : RgOk b) (hab : Apart a b) : wiB a b = decide (wn b (ix a 0) = 1) := by
  have hi : inE b = 0 := by unfold inE; rw [rgE_zero.2 hb]; rfl
  have hoff : offL b (ix a 0) := by
    obtain ⟨e, he, e1⟩ := vert_edge (ix_head ha)
    have := hab.off he (t := 0) (by grind) (by grind)
    rw [lin_zero, e1] at this; exact this
  unfold wiB
  rw [hi, decide_eq_true rfl]
  rcases hb.inV (ix a 0) with ⟨e, h⟩ | ⟨e, _, h⟩ | ⟨e, _, h⟩
  · exact absurd hoff h
  · rw [e, h]; rfl
  · rw [e, h]; rfl
theorem hoL_plg {o : List P2} (ho : RgOk o) : ∀ (hs : List (List (RD × RD))) (pre : List (List P2)), hoL o pre hs = 0 → (∀ x ∈ pre, RgOk x) →
    (∀ h ∈ hs.map (List.map vP), RgOk h ∧ Apart o h ∧ ∃ p ∈ h, wn o p ≠ 0) ∧ (∀ x ∈ pre, ∀ h ∈ hs.map (List.map vP), Aside x h) ∧ (hs.map (List.map vP)).Pairwise Aside
  | [], pre, _, _ => ⟨by simp, by simp, List.Pairwise.nil⟩
  | h :: hs, pre, e, hpre => by
    rw [hoL] at e
    split at e
    · rename_i h1; exact absurd e h1
    rename_i h1
    split at e
    · rename_i h2; exact absurd e h2
    rename_i h2
    have h1 : rgR h = 0 := Classical.not_not.1 h1
    have h2 : hoE o pre (h.map vP) = 0 := Classical.not_not.1 h2
    have hr : RgOk (h.map vP) := rgE_zero.1 (rgR_zero h1).2.1
    unfold hoE at h2
    split at h2
    · exact absurd h2 (by decide)
    rename_i a1
    split at h2
    · exact absurd h2 (by decide)
    rename_i a2
    split at h2
    · exact absurd h2 (by decide)
    rename_i a3
    have ap : Apart (h.map vP) o := mtR_apart hr ho (by
      cases hb : mtR (h.map vP) o with
      | false => rfl
      | true => exact absurd (.inl hb) a1)
    have apx : ∀ x ∈ pre, Apart (h.map vP) x := fun x hx => mtR_apart hr (hpre x hx) (by
      cases hb : mtR (h.map vP) x with
      | false => rfl
      | true => exact absurd (.inr (List.any_eq_true.2 ⟨x, hx, hb⟩)) a1)
    have hin : wn o (ix (h.map vP) 0) ≠ 0 := by
      have hw : wiB (h.map vP) o = true := by simpa using a2
      rw [wiB_iff hr ho ap, decide_eq_true_eq] at hw
      omega
    have off0 : ∀ {a b : List P2}, RgOk a → Apart a b → offL b (ix a 0) := fun ha hab => by
      obtain ⟨e, he, e1⟩ := vert_edge (ix_head ha)
      have := hab.off he (t := 0) (by grind) (by grind)
      rw [lin_zero, e1] at this; exact this
    have asd : ∀ x ∈ pre, Aside x (h.map vP) := fun x hx => by
      have hx' := hpre x hx
      have hap := apx x hx
      have hz : (wiB (h.map vP) x || wiB x (h.map vP)) = false := by
        cases hb : (wiB (h.map vP) x || wiB x (h.map vP)) with
        | false => rfl
        | true => exact absurd (List.any_eq_true.2 ⟨x, hx, hb⟩) a3
      rw [Bool.or_eq_false_iff, wiB_iff hr hx' hap, wiB_iff hx' hr hap.symm, decide_eq_false_iff_not, decide_eq_false_iff_not] at hz
      refine ⟨hap.symm, ⟨ix (h.map vP) 0, ix_head hr, ?_⟩, ⟨ix x 0, ix_head hx', ?_⟩⟩
      · rcases hx'.simp.wn01 hx'.area (off0 hr hap) with e | e
        · exact e
        · exact absurd e hz.1
      · rcases hr.simp.wn01 hr.area (off0 hx' hap.symm) with e | e
        · exact e
        · exact absurd e hz.2
    obtain ⟨i1, i2, i3⟩ := hoL_plg ho hs (pre ++ [h.map vP]) e (fun x hx => by
      rcases List.mem_append.1 hx with hx | hx
      · exact hpre x hx
      · rw [List.mem_singleton.1 hx]; exact hr)
    refine ⟨fun k hk => ?_, fun x hx k hk => ?_, ?_⟩
    · rw [List.map_cons] at hk
      rcases List.mem_cons.1 hk with rfl | hk
      · exact ⟨hr, ap.symm, ix (h.map vP) 0, ix_head hr, hin⟩
      · exact i1 k hk
    · rw [List.map_cons] at hk
      rcases List.mem_cons.1 hk with rfl | hk
      · exact asd x hx
      · exact i2 x (List.mem_append.2 (.inl hx)) k hk
    · rw [List.map_cons, List.pairwise_cons]
      exact ⟨fun k hk => i2 _ (List.mem_append.2 (.inr (List.mem_singleton.2 rfl))) k hk, i3⟩
theorem pgE_plg {o : List (RD × RD)} {hs : List (List (RD × RD))} (h : pgE o hs = 0) : Plg (o.map vP) (hs.map (List.map vP)) ∧ RgOk (o.map vP) ∧ ∀ x ∈ hs.map (List.map vP), RgOk x := by
  obtain ⟨z1, z2, z3, z4⟩ := pgE_zero h
  have ho : RgOk (o.map vP) := rgE_zero.1 (rgR_zero z1).2.1
  obtain ⟨i1, _, i3⟩ := hoL_plg ho hs [] z4 (by simp)
  exact ⟨⟨ho.simp, ho.area, fun h hh => (i1 h hh).1.simp, fun h hh => (i1 h hh).1.area, fun h hh => (i1 h hh).2, i3⟩, ho, fun x hx => (i1 x hx).1⟩
end Go.Nv
end
section
namespace Go.Nv
open Go.Proofs Nw
set_option maxRecDepth 100000
set_option linter.unusedVariables false
set_option linter.unusedSimpArgs false
def gtH (h : List (RD × RD)) : Bool := decide (6 < h.length) || h.any gtP
@[irreducible] def g11 (o : List (RD × RD)) (hs : List (List (RD × RD))) : Bool :=
  decide ((10 < o.length ∧ o.length ≤ 64) ∨ 67 < o.length) || (o.any gtP || ((hs.take 11).any gtH || decide ((3 < hs.length ∧ hs.length ≤ 8) ∨ 10 < hs.length)))
theorem great11_c (o : List (RD × RD)) (hs : List (List (RD × RD))) : Fun Tryz.prog 102 [pgR o hs] [.v (.bool (g11 o hs))] := by
  have hlo : (rL o).length = o.length := by simp
  have hlh : (hR hs).length = hs.length := by simp
  have t1 : ((10 < o.length ∧ o.length ≤ 64) ∨ 67 < o.length) → g11 o hs = true := fun h => by unfold g11; rw [decide_eq_true h]; rfl
  have t2 : o.any gtP = true → g11 o hs = true := fun h => by unfold g11; rw [h]; simp
  have t3 : (hs.take 11).any gtH = true → g11 o hs = true := fun h => by unfold g11; rw [h]; simp
  refine fun_of_go (fun t => false) mixed tOk Tryz.func102 rfl rfl ?_
  conv => whnf
  refine cond_d (fun c1 => ?_) (fun c1 => ?_)
  · conv => whnf
    refine cond_d (fun c2 => ?_) (fun c2 => ?_)
    · rw [t1 (.inl (by omega))]
      conv => whnf
      exact ⟨rfl, trivial⟩
    · conv => whnf
      refine cond_d (fun c3 => ?_) (fun c3 => ?_)
      · rw [t1 (.inr (by omega))]
        conv => whnf
        exact ⟨rfl, trivial⟩
      · have Y0 : ¬ ((10 < o.length ∧ o.length ≤ 64) ∨ 67 < o.length) := by omega
        conv => whnf
        refine call_data rfl rfl (great7 o (by omega)) ?_
        conv => whnf
        refine cond_intro (fun c2 => ?_) (fun c2 => ?_)
        · rw [t2 c2]
          conv => whnf
          exact ⟨rfl, trivial⟩
        · have Z : ¬ ((10 < o.length ∧ o.length ≤ 64) ∨ 67 < o.length) ∧ o.any gtP = false := ⟨Y0, c2⟩
          conv => whnf
          refine loop_intro (fun t => false) (fun i : Nat => ⟨fr 65 [(1, .d (.p 0 [.l (rL o), .l (hR hs)])), (4, .d (i64 i))], []⟩) (fun i => i ≤ hs.length ∧ i ≤ 11 ∧ (hs.take i).any gtH = false) (fun i => hs.length - i) 0 mixed tOk ⟨by omega, by omega, rfl⟩ ?_ ?_
          · refine weak_r ?_ ?_ <;> repeat' (first | exact trivial | exact rfl | refine And.intro ?_ ?_)
          · rintro i ⟨hi, hi2, hno⟩
            have fin : (hs.length ≤ i ∨ 11 ≤ i) → (hs.take 11).any gtH = false := fun h => by
              rcases h with h | h
              · have : i = hs.length := by omega
                subst this
                rw [List.take_length] at hno
                rw [List.any_eq_false] at hno ⊢
                exact fun x hx => hno x (List.mem_of_mem_take hx)
              · have : i = 11 := by omega
                subst this; exact hno
            conv => whnf
            refine cond_d (fun hlt => ?_) (fun hge => ?_)
            · have hlt' : i < hs.length := by omega
              conv => whnf
              refine cond_d (fun h11 => ?_) (fun h11 => ?_)
              · have tk : (hs.take (i + 1)).any gtH = ((hs.take i).any gtH || gtH hs[i]) := by rw [List.take_succ_eq_append_getElem hlt', List.any_append]; simp
                have hin : gtH hs[i] = true → (hs.take 11).any gtH = true := fun h => List.any_eq_true.2 ⟨hs[i], List.mem_take_iff_getElem.2 ⟨i, by omega, rfl⟩, h⟩
                have hll : (rL hs[i]).length = hs[i].length := List.length_map ..
                have hget := hR_get hlt'
                generalize hs[i] = h at *
                conv => whnf
                refine idx_intro (.l (rL h)) hget (by omega) (hR_uni _) ?_
                conv => whnf
                refine cond_d (fun d1 => ?_) (fun d1 => ?_)
                · rw [t3 (hin (by unfold gtH; rw [decide_eq_true (by omega)]; rfl))]
                  conv => whnf
                  exact ⟨rfl, trivial⟩
                · conv => whnf
                  refine idx_intro (.l (rL h)) hget (by omega) (hR_uni _) ?_
                  conv => whnf
                  refine call_data rfl rfl (great7 h (by omega)) ?_
                  conv => whnf
                  refine cond_intro (fun d2 => ?_) (fun d2 => ?_)
                  · rw [t3 (hin (by unfold gtH; rw [d2]; simp))]
                    conv => whnf
                    exact ⟨rfl, trivial⟩
                  · conv => whnf
                    refine sd_d (by omega) ?_
                    conv => whnf
                    refine ⟨i + 1, ⟨by omega, by omega, ?_⟩, by omega, ?_⟩
                    · rw [tk, hno]; unfold gtH; rw [d2, decide_eq_false (by omega)]; rfl
                    rw [Int.natCast_succ]
                    refine weak_r ?_ ?_ <;> repeat' (first | exact trivial | exact rfl | refine And.intro ?_ ?_)
              · have e : g11 o hs = decide ((3 < hs.length ∧ hs.length ≤ 8) ∨ 10 < hs.length) := by
                  unfold g11; rw [decide_eq_false Z.1, Z.2, fin (.inr (by omega))]; rfl
                rw [e]
                conv => whnf
                refine cond_d (fun d1 => ?_) (fun d1 => ?_)
                · conv => whnf
                  refine cond_d (fun d2 => ?_) (fun d2 => ?_)
                  · conv => whnf
                    refine ⟨?_, trivial⟩
                    conv => whnf
                    rw [decide_eq_true (by omega)]
                  · conv => whnf
                    refine ⟨?_, trivial⟩
                    conv => whnf
                    rw [bz_eq, decide_eq_decide]; omega
                · conv => whnf
                  refine ⟨?_, trivial⟩
                  conv => whnf
                  rw [bz_eq, decide_eq_decide]; omega
            · have e : g11 o hs = decide ((3 < hs.length ∧ hs.length ≤ 8) ∨ 10 < hs.length) := by
                unfold g11; rw [decide_eq_false Z.1, Z.2, fin (.inl (by omega))]; rfl
              rw [e]
              conv => whnf
              refine cond_d (fun d1 => ?_) (fun d1 => ?_)
              · conv => whnf
                refine cond_d (fun d2 => ?_) (fun d2 => ?_)
                · conv => whnf
                  refine ⟨?_, trivial⟩
                  conv => whnf
                  rw [decide_eq_true (by omega)]
                · conv => whnf
                  refine ⟨?_, trivial⟩
                  conv => whnf
                  rw [bz_eq, decide_eq_decide]; omega
              · conv => whnf
                refine ⟨?_, trivial⟩
                conv => whnf
                rw [bz_eq, decide_eq_decide]; omega
  · conv => whnf
    refine cond_d (fun c3 => ?_) (fun c3 => ?_)
    · rw [t1 (.inr (by omega))]
      conv => whnf
      exact ⟨rfl, trivial⟩
    · have Y0 : ¬ ((10 < o.length ∧ o.length ≤ 64) ∨ 67 < o.length) := by omega
      conv => whnf
      refine call_data rfl rfl (great7 o (by omega)) ?_
      conv => whnf
      refine cond_intro (fun c2 => ?_) (fun c2 => ?_)
      · rw [t2 c2]
        conv => whnf
        exact ⟨rfl, trivial⟩
      · have Z : ¬ ((10 < o.length ∧ o.length ≤ 64) ∨ 67 < o.length) ∧ o.any gtP = false := ⟨Y0, c2⟩
        conv => whnf
        refine loop_intro (fun t => false) (fun i : Nat => ⟨fr 65 [(1, .d (.p 0 [.l (rL o), .l (hR hs)])), (4, .d (i64 i))], []⟩) (fun i => i ≤ hs.length ∧ i ≤ 11 ∧ (hs.take i).any gtH = false) (fun i => hs.length - i) 0 mixed tOk ⟨by omega, by omega, rfl⟩ ?_ ?_
        · refine weak_r ?_ ?_ <;> repeat' (first | exact trivial | exact rfl | refine And.intro ?_ ?_)
        · rintro i ⟨hi, hi2, hno⟩
          have fin : (hs.length ≤ i ∨ 11 ≤ i) → (hs.take 11).any gtH = false := fun h => by
            rcases h with h | h
            · have : i = hs.length := by omega
              subst this
              rw [List.take_length] at hno
              rw [List.any_eq_false] at hno ⊢
              exact fun x hx => hno x (List.mem_of_mem_take hx)
            · have : i = 11 := by omega
              subst this; exact hno
          conv => whnf
          refine cond_d (fun hlt => ?_) (fun hge => ?_)
          · have hlt' : i < hs.length := by omega
            conv => whnf
            refine cond_d (fun h11 => ?_) (fun h11 => ?_)
            · have tk : (hs.take (i + 1)).any gtH = ((hs.take i).any gtH || gtH hs[i]) := by rw [List.take_succ_eq_append_getElem hlt', List.any_append]; simp
              have hin : gtH hs[i] = true → (hs.take 11).any gtH = true := fun h => List.any_eq_true.2 ⟨hs[i], List.mem_take_iff_getElem.2 ⟨i, by omega, rfl⟩, h⟩
              have hll : (rL hs[i]).length = hs[i].length := List.length_map ..
              have hget := hR_get hlt'
              generalize hs[i] = h at *
              conv => whnf
              refine idx_intro (.l (rL h)) hget (by omega) (hR_uni _) ?_
              conv => whnf
              refine cond_d (fun d1 => ?_) (fun d1 => ?_)
              · rw [t3 (hin (by unfold gtH; rw [decide_eq_true (by omega)]; rfl))]
                conv => whnf
                exact ⟨rfl, trivial⟩
              · conv => whnf
                refine idx_intro (.l (rL h)) hget (by omega) (hR_uni _) ?_
                conv => whnf
                refine call_data rfl rfl (great7 h (by omega)) ?_
                conv => whnf
                refine cond_intro (fun d2 => ?_) (fun d2 => ?_)
                · rw [t3 (hin (by unfold gtH; rw [d2]; simp))]
                  conv => whnf
                  exact ⟨rfl, trivial⟩
                · conv => whnf
                  refine sd_d (by omega) ?_
                  conv => whnf
                  refine ⟨i + 1, ⟨by omega, by omega, ?_⟩, by omega, ?_⟩
                  · rw [tk, hno]; unfold gtH; rw [d2, decide_eq_false (by omega)]; rfl
                  rw [Int.natCast_succ]
                  refine weak_r ?_ ?_ <;> repeat' (first | exact trivial | exact rfl | refine And.intro ?_ ?_)
            · have e : g11 o hs = decide ((3 < hs.length ∧ hs.length ≤ 8) ∨ 10 < hs.length) := by
                unfold g11; rw [decide_eq_false Z.1, Z.2, fin (.inr (by omega))]; rfl
              rw [e]
              conv => whnf
              refine cond_d (fun d1 => ?_) (fun d1 => ?_)
              · conv => whnf
                refine cond_d (fun d2 => ?_) (fun d2 => ?_)
                · conv => whnf
                  refine ⟨?_, trivial⟩
                  conv => whnf
                  rw [decide_eq_true (by omega)]
                · conv => whnf
                  refine ⟨?_, trivial⟩
                  conv => whnf
                  rw [bz_eq, decide_eq_decide]; omega
              · conv => whnf
                refine ⟨?_, trivial⟩
                conv => whnf
                rw [bz_eq, decide_eq_decide]; omega
          · have e : g11 o hs = decide ((3 < hs.length ∧ hs.length ≤ 8) ∨ 10 < hs.length) := by
              unfold g11; rw [decide_eq_false Z.1, Z.2, fin (.inl (by omega))]; rfl
            rw [e]
            conv => whnf
            refine cond_d (fun d1 => ?_) (fun d1 => ?_)
            · conv => whnf
              refine cond_d (fun d2 => ?_) (fun d2 => ?_)
              · conv => whnf
                refine ⟨?_, trivial⟩
                conv => whnf
                rw [decide_eq_true (by omega)]
              · conv => whnf
                refine ⟨?_, trivial⟩
                conv => whnf
                rw [bz_eq, decide_eq_decide]; omega
            · conv => whnf
              refine ⟨?_, trivial⟩
              conv => whnf
              rw [bz_eq, decide_eq_decide]; omega
end Go.Nv
end
section
namespace Go.Nv
open Go.Proofs Nw
set_option maxRecDepth 100000
set_option linter.unusedVariables false
set_option linter.unusedSimpArgs false
theorem any_take {α : Type} {g : α → Bool} {l : List α} {n : Nat} (h : (l.take n).any g = false) (hn : l.length ≤ n) : ∀ x ∈ l, g x = false := by
  rw [List.take_of_length_le hn, List.any_eq_false] at h
  intro x hx
  have := h x hx
  simpa using this
structure G11 (o : List (RD × RD)) (hs : List (List (RD × RD))) : Prop where
  lo : o.length ≤ 67
  lh : hs.length ≤ 10
  ob : ∀ p ∈ o, gtP p = false
  hb : ∀ h ∈ hs, ∀ p ∈ h, gtP p = false
  hl : ∀ h ∈ hs, h.length ≤ 6
theorem g11_f {o : List (RD × RD)} {hs : List (List (RD × RD))} (h : g11 o hs = false) : G11 o hs := by
  unfold g11 at h
  rw [Bool.or_eq_false_iff, Bool.or_eq_false_iff, Bool.or_eq_false_iff, decide_eq_false_iff_not, decide_eq_false_iff_not] at h
  obtain ⟨h1, h2, h3, h4⟩ := h
  have h5 := any_take h3 (by omega)
  refine ⟨by omega, by omega, fun p hp => ?_, fun x hx p hp => ?_, fun x hx => ?_⟩
  · rw [List.any_eq_false] at h2; have := h2 p hp; simpa using this
  · have := h5 x hx
    unfold gtH at this
    rw [Bool.or_eq_false_iff, List.any_eq_false] at this
    have := this.2 p hp; simpa using this
  · have := h5 x hx
    unfold gtH at this
    rw [Bool.or_eq_false_iff, decide_eq_false_iff_not] at this
    omega
def nPt (o : List (RD × RD)) (hs : List (List (RD × RD))) : Nat := o.length + (hs.map List.length).sum
theorem nPt_take {o : List (RD × RD)} {hs : List (List (RD × RD))} {i : Nat} (h : i < hs.length) : nPt o (hs.take (i + 1)) = nPt o (hs.take i) + hs[i].length := by
  unfold nPt; rw [List.take_succ_eq_append_getElem h, List.map_append, List.sum_append]; simp; omega
theorem nPt_le {o : List (RD × RD)} {hs : List (List (RD × RD))} (hl : ∀ h ∈ hs, h.length ≤ 6) : ∀ i, i ≤ hs.length → nPt o (hs.take i) ≤ o.length + 6 * i
  | 0, _ => by simp [nPt]
  | i + 1, h => by
    rw [nPt_take h]
    have := nPt_le (o := o) hl i (by omega)
    have := hl _ (List.getElem_mem h)
    omega
@[irreducible] def g22 (o : List (RD × RD)) (hs : List (List (RD × RD))) : Bool := g11 o hs || decide (12 < nPt o hs ∧ o.length ≤ 64 ∧ hs.length ≤ 8)
theorem great22_c (o : List (RD × RD)) (hs : List (List (RD × RD))) : Fun Tryz.prog 38 [pgR o hs] [.v (.bool (g22 o hs))] := by
  have hlo : (rL o).length = o.length := by simp
  have hlh : (hR hs).length = hs.length := by simp
  refine fun_of_go (fun t => false) mixed tOk Tryz.func38 rfl rfl ?_
  conv => whnf
  refine call_data rfl rfl (great11_c o hs) ?_
  conv => whnf
  refine cond_intro (fun c1 => ?_) (fun c1 => ?_)
  · rw [show g22 o hs = true by unfold g22; rw [c1]; rfl]
    conv => whnf
    exact ⟨rfl, trivial⟩
  have hG := g11_f c1
  have e0 : g22 o hs = decide (12 < nPt o hs ∧ o.length ≤ 64 ∧ hs.length ≤ 8) := by unfold g22; rw [c1]; rfl
  rw [e0]
  conv => whnf
  refine loop_intro (fun t => false) (fun i : Nat => ⟨fr 39 [(1, .d (.p 0 [.l (rL o), .l (hR hs)])), (3, .d (i64 (nPt o (hs.take i)))), (4, .d (i64 i))], []⟩) (fun i => i ≤ hs.length) (fun i => hs.length - i) 0 mixed tOk (by omega) ?_ ?_
  · have e : nPt o (hs.take 0) = (rL o).length := by simp [nPt]
    rw [e]
    refine weak_r ?_ ?_ <;> repeat' (first | exact trivial | exact rfl | refine And.intro ?_ ?_)
  · intro i hi
    have hle := nPt_le (o := o) hG.hl i hi
    have hGl := hG.lh
    have hGo := hG.lo
    conv => whnf
    refine cond_d (fun hlt => ?_) (fun hge => ?_)
    · have hlt' : i < hs.length := by omega
      have hi6 := hG.hl _ (List.getElem_mem hlt')
      have hst := nPt_take (o := o) hlt'
      have hget := hR_get hlt'
      have hll : (rL hs[i]).length = hs[i].length := List.length_map ..
      generalize hs[i] = h at *
      conv => whnf
      refine idx_intro (.l (rL h)) hget (by omega) (hR_uni _) ?_
      conv => whnf
      refine sd_d (by omega) ?_
      conv => whnf
      refine sd_d (by omega) ?_
      conv => whnf
      refine ⟨i + 1, by omega, by omega, ?_⟩
      rw [hst, Int.natCast_succ, Int.natCast_add, ← hll]
      refine weak_r ?_ ?_ <;> repeat' (first | exact trivial | exact rfl | refine And.intro ?_ ?_)
    · have : i = hs.length := by omega
      subst this
      rw [List.take_length] at hle ⊢
      conv => whnf
      refine cond_d (fun d1 => ?_) (fun d1 => ?_)
      · conv => whnf
        refine cond_d (fun d2 => ?_) (fun d2 => ?_)
        · conv => whnf
          refine ⟨?_, trivial⟩
          conv => whnf
          rw [bz_eq, decide_eq_decide]; omega
        · conv => whnf
          refine ⟨?_, trivial⟩
          conv => whnf
          rw [decide_eq_false (by omega)]
      · conv => whnf
        refine ⟨?_, trivial⟩
        conv => whnf
        rw [decide_eq_false (by omega)]
end Go.Nv
end
section
namespace Go.Nv
open Go.Proofs Nw
set_option maxRecDepth 100000
set_option linter.unusedVariables false
set_option linter.unusedSimpArgs false
theorem qL_get {l : List Rat} {i : Nat} (h : i < l.length) : (qL l)[(i : Int).toNat]? = some (ratD l[i]) := by simp [h]
theorem eqDs_rat (p q : Rat) : eqDs [.v (.bool (rneg p)), .v (.string (rnum p)), .v (.string (rden p))] [.v (.bool (rneg q)), .v (.string (rnum q)), .v (.string (rden q))] = decide (p = q) := by
  unfold rneg rnum rden
  rw [eqDs_rd, decide_eq_decide]
  constructor
  · intro h; have h3 := congrArg RD.val h; rw [val_canon, val_canon] at h3; exact h3
  · rintro rfl; rfl
end Go.Nv
end
