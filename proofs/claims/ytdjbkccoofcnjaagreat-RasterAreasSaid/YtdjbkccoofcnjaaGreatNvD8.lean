import Derived.Test.YtdjbkccoofcnjaaGreatNvD7
import Derived.Test.YtdjbkccoofcnjaaGreatNvD5
set_option linter.all false
set_option linter.unusedVariables false
set_option linter.unusedSimpArgs false
section
namespace Go.Nv
open Go.Proofs Nw
set_option maxRecDepth 100000
set_option linter.unusedVariables false
set_option linter.unusedSimpArgs false
theorem cmpI_pos {p q : Rat} : 0 < cmpI p q ↔ q < p := by
  have := cmpI_le (p := p) (q := q)
  constructor
  · intro h
    have h1 : ¬ p ≤ q := fun h2 => by have := this.2 h2; omega
    grind
  · intro h
    have h1 : ¬ cmpI p q ≤ 0 := fun h2 => by have := this.1 h2; grind
    omega
theorem abB_iff {p q : P2} : abB p q = true ↔ p.2 < q.2 := by unfold abB; rw [decide_eq_true_eq, cmpI_pos]
theorem orI_pos {a b c : P2} : 0 < orI a b c ↔ 0 < orQ a b c := by
  unfold orI; rw [sgnI_eq]; unfold sgnQ
  by_cases h1 : orQ a b c < 0
  · rw [if_pos h1]; constructor <;> intro h
    · exact absurd h (by decide)
    · grind
  · rw [if_neg h1]
    by_cases h2 : 0 < orQ a b c
    · rw [if_pos h2]; exact ⟨fun _ => h2, fun _ => by decide⟩
    · rw [if_neg h2]; constructor <;> intro h
      · exact absurd h (by decide)
      · exact absurd h h2
theorem odE_iff {p : P2} {e : P2 × P2} : odE p e = true ↔ crI e.1 e.2 p ≠ 0 := by
  unfold odE swE crI
  by_cases h1 : abB p e.1 = true
  · rw [if_pos h1]
    have h1' := abB_iff.1 h1
    rw [if_neg (by grind), Bool.and_eq_true, Bool.and_eq_true, decide_eq_true_eq, orI_pos, abB_iff, Bool.not_eq_true', ← Bool.not_eq_true, abB_iff]
    simp only
    by_cases h2 : e.2.2 ≤ p.2 ∧ p.2 < e.1.2 ∧ 0 < orQ e.2 e.1 p
    · rw [if_pos h2]; exact ⟨fun _ => by decide, fun _ => ⟨by grind, h2.2⟩⟩
    · rw [if_neg h2]; exact ⟨fun h => absurd ⟨by grind, h.2⟩ h2, fun h => absurd rfl h⟩
  · rw [if_neg h1]
    have h1' : ¬ p.2 < e.1.2 := fun h => h1 (abB_iff.2 h)
    rw [Bool.and_eq_true, Bool.and_eq_true, decide_eq_true_eq, orI_pos, abB_iff, Bool.not_eq_true', ← Bool.not_eq_true, abB_iff]
    by_cases h2 : e.1.2 ≤ p.2 ∧ p.2 < e.2.2 ∧ 0 < orQ e.1 e.2 p
    · rw [if_pos h2]; exact ⟨fun _ => by decide, fun _ => ⟨h1', h2.2⟩⟩
    · rw [if_neg h2, if_neg (by grind)]; exact ⟨fun h => absurd ⟨by grind, h.2⟩ h2, fun h => absurd rfl h⟩
theorem crI_rng (u v p : P2) : crI u v p = 0 ∨ crI u v p = 1 ∨ crI u v p = -1 := by
  unfold crI
  split
  · exact .inr (.inl rfl)
  · split
    · exact .inr (.inr rfl)
    · exact .inl rfl
theorem par_step (b o : Bool) (c s : Int) (r : c = 0 ∨ c = 1 ∨ c = -1) (h : o = true ↔ c ≠ 0) : ((if o = true then !b else b) ^^ decide (s % 2 ≠ 0)) = (b ^^ decide ((c + s) % 2 ≠ 0)) := by
  by_cases hs : s % 2 = 0
  · rw [decide_eq_false (show ¬ s % 2 ≠ 0 by omega)]
    rcases r with r | r | r
    · have : o = false := by cases o with
        | false => rfl
        | true => exact absurd r (h.1 rfl)
      rw [this, r, decide_eq_false (show ¬ (0 + s) % 2 ≠ 0 by omega)]; cases b <;> rfl
    · rw [h.2 (by omega), r, decide_eq_true (show (1 + s) % 2 ≠ 0 by omega)]; cases b <;> rfl
    · rw [h.2 (by omega), r, decide_eq_true (show (-1 + s) % 2 ≠ 0 by omega)]; cases b <;> rfl
  · rw [decide_eq_true (show s % 2 ≠ 0 by omega)]
    rcases r with r | r | r
    · have : o = false := by cases o with
        | false => rfl
        | true => exact absurd r (h.1 rfl)
      rw [this, r, decide_eq_true (show (0 + s) % 2 ≠ 0 by omega)]; cases b <;> rfl
    · rw [h.2 (by omega), r, decide_eq_false (show ¬ (1 + s) % 2 ≠ 0 by omega)]; cases b <;> rfl
    · rw [h.2 (by omega), r, decide_eq_false (show ¬ (-1 + s) % 2 ≠ 0 by omega)]; cases b <;> rfl
theorem od_fold (p : P2) : ∀ (E : List (P2 × P2)) (b : Bool), E.foldl (odF p) b = (b ^^ decide ((sumZ (fun u v => crI u v p) E) % 2 ≠ 0))
  | [], b => by simp [sumZ]
  | e :: E, b => by
    rw [List.foldl_cons, od_fold p E]
    unfold odF
    exact par_step b _ _ _ (crI_rng e.1 e.2 p) odE_iff
theorem odB_wn (l : List P2) (p : P2) : odB l p = decide (wn l p % 2 ≠ 0) := by
  unfold odB
  rw [od_fold]; simp only [Bool.false_xor]; rfl
theorem bet_line {a b p : P2} (hab : a ≠ b) (ho : orQ a b p = 0) (h1 : leP a p) (h2 : leP p b) : ∃ t : Rat, 0 ≤ t ∧ t ≤ 1 ∧ lin a b t = p := by
  unfold leP at h1 h2
  simp only [orQ] at ho
  by_cases hx : a.1 = b.1
  · have hy : a.2 ≠ b.2 := fun h => hab (Prod.ext hx h)
    have hz : (b.2 - a.2) * (p.1 - a.1) = 0 := by rw [hx] at ho ⊢; grind
    have hpx : p.1 = a.1 := by
      rcases Rat.mul_eq_zero.1 hz with h | h
      · exact absurd (by grind) hy
      · grind
    have y1 : a.2 ≤ p.2 := by grind
    have y2 : p.2 ≤ b.2 := by grind
    obtain ⟨t0, t1⟩ := div_unit (x := p.2 - a.2) (y := b.2 - a.2) (by grind) (by grind) (by grind)
    refine ⟨_, t0, t1, Prod.ext ?_ ?_⟩
    · simp only [lin]; rw [hx, hpx]; grind
    · simp only [lin]
      have : b.2 - a.2 ≠ 0 := by grind
      grind
  · have x1 : a.1 ≤ p.1 := by grind
    have x2 : p.1 ≤ b.1 := by grind
    obtain ⟨t0, t1⟩ := div_unit (x := p.1 - a.1) (y := b.1 - a.1) (by grind) (by grind) (by grind)
    have hn : b.1 - a.1 ≠ 0 := by grind
    refine ⟨_, t0, t1, Prod.ext ?_ ?_⟩
    · simp only [lin]; grind
    · simp only [lin]; grind
theorem cmP_zero {p q : P2} : cmP p q = 0 ↔ p = q := by
  unfold cmP
  by_cases h : cmpI p.1 q.1 = 0
  · rw [if_pos h, cmpI_zero]
    have := cmpI_zero.1 h
    exact ⟨fun h2 => Prod.ext this h2, fun h2 => by rw [h2]⟩
  · rw [if_neg h]
    exact ⟨fun h2 => absurd h2 h, fun h2 => absurd (cmpI_zero.2 (by rw [h2])) h⟩
theorem bet_on {a b p : P2} (hab : a ≠ b) : betB a b p = true ↔ ∃ t : Rat, 0 ≤ t ∧ t ≤ 1 ∧ lin a b t = p := by
  unfold betB
  rw [Bool.and_eq_true, Bool.and_eq_true, Bool.or_eq_true, decide_eq_true_eq, decide_eq_true_eq, decide_eq_true_eq, decide_eq_true_eq, orI_zero]
  constructor
  · rintro ⟨ho, hp, _⟩
    rcases cmP_rng a p with h1 | h1 | h1 <;> rcases cmP_rng p b with h2 | h2 | h2
    · exact bet_line hab ho (cmP_le.1 (by omega)) (cmP_le.1 (by omega))
    · exact ⟨1, by grind, by grind, by rw [lin_one]; exact (cmP_zero.1 h2).symm⟩
    · rw [h1, h2] at hp; exact absurd hp (by decide)
    · exact ⟨0, by grind, by grind, by rw [lin_zero]; exact cmP_zero.1 h1⟩
    · exact ⟨0, by grind, by grind, by rw [lin_zero]; exact cmP_zero.1 h1⟩
    · exact ⟨0, by grind, by grind, by rw [lin_zero]; exact cmP_zero.1 h1⟩
    · rw [h1, h2] at hp; exact absurd hp (by decide)
    · exact ⟨1, by grind, by grind, by rw [lin_one]; exact (cmP_zero.1 h2).symm⟩
    · have k1 : leP p a := leP_not fun h => by have := cmP_le.2 h; omega
      have k2 : leP b p := leP_not fun h => by have := cmP_le.2 h; omega
      obtain ⟨t, t0, t1, e⟩ := bet_line (a := b) (b := a) (fun h => hab h.symm) (by simp only [orQ] at ho ⊢; grind) k2 k1
      exact ⟨1 - t, by grind, by grind, by rw [← e]; exact (lin_swap a b t).symm⟩
  · rintro ⟨t, t0, t1, rfl⟩
    refine ⟨by simp only [orQ, lin]; grind, ?_, .inl fun h => hab (cmP_zero.1 h)⟩
    rcases leP_total a b with h | h
    · obtain ⟨k1, k2⟩ := leP_lin h t0 t1
      have c1 := cmP_le.2 k1
      have c2 := cmP_le.2 k2
      rcases cmP_rng a (lin a b t) with h1 | h1 | h1 <;> rcases cmP_rng (lin a b t) b with h2 | h2 | h2 <;> rw [h1, h2] <;> first | decide | omega
    · obtain ⟨k1, k2⟩ := leP_lin h (t := 1 - t) (by grind) (by grind)
      rw [lin_swap] at k1 k2
      have e : (1 : Rat) - (1 - t) = t := by grind
      rw [e] at k1 k2
      -- a point not greater, and not less
      have g1 : cmP a (lin a b t) = 0 ∨ 0 < cmP a (lin a b t) := by
        rcases cmP_rng a (lin a b t) with h1 | h1 | h1
        · have := cmP_le.1 (show cmP a (lin a b t) ≤ 0 by omega)
          have : a = lin a b t := by
            unfold leP at this k2
            generalize lin a b t = z at *
            exact Prod.ext (by grind) (by grind)
          exact .inl (cmP_zero.2 this)
        · exact .inl h1
        · exact .inr (by omega)
      have g2 : cmP (lin a b t) b = 0 ∨ 0 < cmP (lin a b t) b := by
        rcases cmP_rng (lin a b t) b with h1 | h1 | h1
        · have := cmP_le.1 (show cmP (lin a b t) b ≤ 0 by omega)
          have : lin a b t = b := by
            unfold leP at this k1
            generalize lin a b t = z at *
            exact Prod.ext (by grind) (by grind)
          exact .inl (cmP_zero.2 this)
        · exact .inl h1
        · exact .inr (by omega)
      rcases g1 with g1 | g1
      · rw [g1]; omega
      · rcases g2 with g2 | g2
        · rw [g2]; omega
        · exact Int.mul_nonneg (by omega) (by omega)
theorem RgOk.edge_ne {l : List P2} (h : RgOk l) {e : P2 × P2} (he : e ∈ cyc l) : e.1 ≠ e.2 := by
  obtain ⟨i, hi, rfl⟩ := mem_ed he
  exact h.ne i
theorem RgOk.onB {l : List P2} (h : RgOk l) (p : P2) : onB l p = false ↔ offL l p := by
  unfold Nv.onB
  rw [List.any_eq_false]
  constructor
  · intro ho e he t t0 t1 heq
    exact ho e he ((bet_on (h.edge_ne he)).2 ⟨t, t0, t1, heq⟩)
  · intro ho e he hb
    obtain ⟨t, t0, t1, heq⟩ := (bet_on (h.edge_ne he)).1 hb
    exact ho e he t t0 t1 heq
theorem RgOk.inV {l : List P2} (h : RgOk l) (p : P2) : (inV l p = 0 ∧ ¬ offL l p) ∨ (inV l p = 1 ∧ offL l p ∧ wn l p = 1) ∨ (inV l p = -1 ∧ offL l p ∧ wn l p = 0) := by
  have hz : rgE l = 0 := rgE_zero.2 h
  unfold Nv.inV
  rw [if_neg (fun hh => hh hz)]
  by_cases ho : Nv.onB l p = true
  · rw [if_pos ho]; left
    refine ⟨rfl, fun hoff => ?_⟩
    rw [(h.onB p).2 hoff] at ho; exact absurd ho (by decide)
  · rw [if_neg ho]
    have hoff := (h.onB p).1 (by simpa using ho)
    right
    rcases h.simp.wn01 h.area hoff with e | e
    · right
      rw [odB_wn, e, if_neg (by decide)]
      exact ⟨rfl, hoff, rfl⟩
    · left
      rw [odB_wn, e, if_pos (by decide)]
      exact ⟨rfl, hoff, rfl⟩
theorem mtR_apart {a b : List P2} (ha : RgOk a) (hb : RgOk b) (h : mtR a b = false) : Apart a b := by
  unfold mtR at h
  rw [List.any_eq_false] at h
  intro e he f hf
  have h1 := h e he
  rw [Bool.not_eq_true, List.any_eq_false] at h1
  have h2 := h1 f hf
  exact mtB_false (by simpa using h2) (ha.edge_ne he) (hb.edge_ne hf)
theorem ix_head {l : List P2} (h : RgOk l) : ix l 0 ∈ l := ix_mem (by have := h.len; omega)
theorem wiB_iff {a b : List P2} (ha : RgOk a) (hb : RgOk b) (hab : Apart a b) : wiB a b = decide (wn b (ix a 0) = 1) := by
  have hi : inE b = 0 := by unfold inE; rw [rgE_zero.2 hb]; rfl
  have hoff : offL b (ix a 0) := by
    obtain ⟨e, he, e1⟩ := vert_edge (ix_head ha)
    have := hab.off he (t := 0) (by grind) (by grind)
    rw [lin_zero, e1] at this; exact this
  unfold wiB
  rw [hi, decide_eq_true rfl]
  rcases hb.inV (ix a 0) with ⟨e, h⟩ | ⟨e, _, h⟩ | ⟨e, _, h⟩
  · exact absurd hoff h
  · rw [e, h]; rfl
  · rw [e, h]; rfl
theorem hoL_plg {o : List P2} (ho : RgOk o) : ∀ (hs : List (List (RD × RD))) (pre : List (List P2)), hoL o pre hs = 0 → (∀ x ∈ pre, RgOk x) →
    (∀ h ∈ hs.map (List.map vP), RgOk h ∧ Apart o h ∧ ∃ p ∈ h, wn o p ≠ 0) ∧ (∀ x ∈ pre, ∀ h ∈ hs.map (List.map vP), Aside x h) ∧ (hs.map (List.map vP)).Pairwise Aside
  | [], pre, _, _ => ⟨by simp, by simp, List.Pairwise.nil⟩
  | h :: hs, pre, e, hpre => by
    rw [hoL] at e
    split at e
    · rename_i h1; exact absurd e h1
    rename_i h1
    split at e
    · rename_i h2; exact absurd e h2
    rename_i h2
    have h1 : rgR h = 0 := Classical.not_not.1 h1
    have h2 : hoE o pre (h.map vP) = 0 := Classical.not_not.1 h2
    have hr : RgOk (h.map vP) := rgE_zero.1 (rgR_zero h1).2.1
    unfold hoE at h2
    split at h2
    · exact absurd h2 (by decide)
    rename_i a1
    split at h2
    · exact absurd h2 (by decide)
    rename_i a2
    split at h2
    · exact absurd h2 (by decide)
    rename_i a3
    have ap : Apart (h.map vP) o := mtR_apart hr ho (by
      cases hb : mtR (h.map vP) o with
      | false => rfl
      | true => exact absurd (.inl hb) a1)
    have apx : ∀ x ∈ pre, Apart (h.map vP) x := fun x hx => mtR_apart hr (hpre x hx) (by
      cases hb : mtR (h.map vP) x with
      | false => rfl
      | true => exact absurd (.inr (List.any_eq_true.2 ⟨x, hx, hb⟩)) a1)
    have hin : wn o (ix (h.map vP) 0) ≠ 0 := by
      have hw : wiB (h.map vP) o = true := by simpa using a2
      rw [wiB_iff hr ho ap, decide_eq_true_eq] at hw
      omega
    have off0 : ∀ {a b : List P2}, RgOk a → Apart a b → offL b (ix a 0) := fun ha hab => by
      obtain ⟨e, he, e1⟩ := vert_edge (ix_head ha)
      have := hab.off he (t := 0) (by grind) (by grind)
      rw [lin_zero, e1] at this; exact this
    have asd : ∀ x ∈ pre, Aside x (h.map vP) := fun x hx => by
      have hx' := hpre x hx
      have hap := apx x hx
      have hz : (wiB (h.map vP) x || wiB x (h.map vP)) = false := by
        cases hb : (wiB (h.map vP) x || wiB x (h.map vP)) with
        | false => rfl
        | true => exact absurd (List.any_eq_true.2 ⟨x, hx, hb⟩) a3
      rw [Bool.or_eq_false_iff, wiB_iff hr hx' hap, wiB_iff hx' hr hap.symm, decide_eq_false_iff_not, decide_eq_false_iff_not] at hz
      refine ⟨hap.symm, ⟨ix (h.map vP) 0, ix_head hr, ?_⟩, ⟨ix x 0, ix_head hx', ?_⟩⟩
      · rcases hx'.simp.wn01 hx'.area (off0 hr hap) with e | e
        · exact e
        · exact absurd e hz.1
      · rcases hr.simp.wn01 hr.area (off0 hx' hap.symm) with e | e
        · exact e
        · exact absurd e hz.2
    obtain ⟨i1, i2, i3⟩ := hoL_plg ho hs (pre ++ [h.map vP]) e (fun x hx => by
      rcases List.mem_append.1 hx with hx | hx
      · exact hpre x hx
      · rw [List.mem_singleton.1 hx]; exact hr)
    refine ⟨fun k hk => ?_, fun x hx k hk => ?_, ?_⟩
    · rw [List.map_cons] at hk
      rcases List.mem_cons.1 hk with rfl | hk
      · exact ⟨hr, ap.symm, ix (h.map vP) 0, ix_head hr, hin⟩
      · exact i1 k hk
    · rw [List.map_cons] at hk
      rcases List.mem_cons.1 hk with rfl | hk
      · exact asd x hx
      · exact i2 x (List.mem_append.2 (.inl hx)) k hk
    · rw [List.map_cons, List.pairwise_cons]
      exact ⟨fun k hk => i2 _ (List.mem_append.2 (.inr (List.mem_singleton.2 rfl))) k hk, i3⟩
theorem pgE_plg {o : List (RD × RD)} {hs : List (List (RD × RD))} (h : pgE o hs = 0) : Plg (o.map vP) (hs.map (List.map vP)) ∧ RgOk (o.map vP) ∧ ∀ x ∈ hs.map (List.map vP), RgOk x := by
  obtain ⟨z1, z2, z3, z4⟩ := pgE_zero h
  have ho : RgOk (o.map vP) := rgE_zero.1 (rgR_zero z1).2.1
  obtain ⟨i1, _, i3⟩ := hoL_plg ho hs [] z4 (by simp)
  exact ⟨⟨ho.simp, ho.area, fun h hh => (i1 h hh).1.simp, fun h hh => (i1 h hh).1.area, fun h hh => (i1 h hh).2, i3⟩, ho, fun x hx => (i1 x hx).1⟩
end Go.Nv
end
section
namespace Go.Nv
open Go.Proofs Nw
set_option maxRecDepth 100000
set_option linter.unusedVariables false
set_option linter.unusedSimpArgs false
def whL : List (List P2) → P2 → Int
  | [], _ => 1
  | h :: hs, q => if 0 - inV h q ≤ 0 then 0 - inV h q else whL hs q
def whV (o : List P2) (hs : List (List P2)) (q : P2) : Int := if inV o q ≤ 0 then inV o q else whL hs q
theorem on_wn {a b : List P2} (ha : RgOk a) (h : Apart a b) {p : P2} (hp : p ∈ a) {q : P2} (hq : ¬ offL a q) : wn b q = wn b p := by
  obtain ⟨u, hu⟩ := wn_along h
  unfold offL at hq
  simp only [Classical.not_forall, ne_eq, Classical.not_not] at hq
  obtain ⟨e, he, t, t0, t1, rfl⟩ := hq
  rw [hu e he t t0 t1, along_vert hu hp]
theorem whL_cases {q : P2} : ∀ {hs : List (List P2)}, (∀ h ∈ hs, RgOk h) → whL hs q = 0 ∨ (whL hs q = 1 ∧ ∀ h ∈ hs, offL h q ∧ wn h q = 0) ∨ (whL hs q = -1 ∧ ∃ h ∈ hs, offL h q ∧ wn h q = 1)
  | [], _ => .inr (.inl ⟨rfl, by simp⟩)
  | h :: hs, hr => by
    have ih := whL_cases (q := q) (hs := hs) (fun x hx => hr x (by simp [hx]))
    rw [whL]
    rcases (hr h (by simp)).inV q with ⟨e, _⟩ | ⟨e, h1, h2⟩ | ⟨e, h1, h2⟩
    · rw [e]; exact .inl rfl
    · rw [e]; exact .inr (.inr ⟨rfl, h, by simp, h1, h2⟩)
    · rw [e, if_neg (by decide)]
      rcases ih with i | ⟨i, k⟩ | ⟨i, x, hx, k⟩
      · exact .inl i
      · refine .inr (.inl ⟨i, fun y hy => ?_⟩)
        rcases List.mem_cons.1 hy with rfl | hy
        · exact ⟨h1, h2⟩
        · exact k y hy
      · exact .inr (.inr ⟨i, x, by simp [hx], k⟩)
theorem aside_wn : ∀ {hs : List (List P2)} {q : P2}, (∀ h ∈ hs, RgOk h) → hs.Pairwise Aside → ∀ h ∈ hs, offL h q → wn h q = 1 → ∀ x ∈ hs, offL x q ∧ (x = h ∨ wn x q = 0)
  | [], q, _, _, h, hh, _, _, x, hx => by simp at hx
  | a :: hs, q, hr, pw, h, hh, h1, h2, x, hx => by
    rw [List.pairwise_cons] at pw
    have pair : ∀ {u v : List P2}, RgOk u → RgOk v → Aside u v → offL u q → wn u q = 1 → offL v q ∧ wn v q = 0 := fun {u v} hu hv A o1 o2 => by
      obtain ⟨ap, ⟨p, hp, hp0⟩, ⟨r, hrm, hr0⟩⟩ := A
      have ov : offL v q := Classical.byContradiction fun hn => by
        have := on_wn hv ap.symm hp hn
        omega
      refine ⟨ov, ?_⟩
      rcases beside_law hu.simp ap hp hp0 hrm hr0 o1 ov with e | e
      · omega
      · exact e
    have flip : ∀ {u v : List P2}, Aside u v → Aside v u := fun A => ⟨A.ap.symm, A.r, A.l⟩
    by_cases ea : h = a
    · by_cases ex : x = a
      · rw [ex, ← ea]; exact ⟨h1, .inl rfl⟩
      · have hx' : x ∈ hs := (List.mem_cons.1 hx).resolve_left ex
        have := pair (hr a (by simp)) (hr x (by simp [hx'])) (pw.1 x hx') (ea ▸ h1) (ea ▸ h2)
        exact ⟨this.1, .inr this.2⟩
    · have hh' : h ∈ hs := (List.mem_cons.1 hh).resolve_left ea
      by_cases ex : x = a
      · rw [ex]
        have := pair (hr h (by simp [hh'])) (hr a (by simp)) (flip (pw.1 h hh')) h1 h2
        exact ⟨this.1, .inr this.2⟩
      · exact aside_wn (fun y hy => hr y (by simp [hy])) pw.2 h hh' h1 h2 x ((List.mem_cons.1 hx).resolve_left ex)
theorem whV_cases {o : List P2} {hs : List (List P2)} (P : Plg o hs) (ho : RgOk o) (hr : ∀ h ∈ hs, RgOk h) (q : P2) :
    whV o hs q = 0 ∨ (whV o hs q = 1 ∧ wn o q = 1 ∧ ∀ h ∈ hs, wn h q = 0) ∨ (whV o hs q = -1 ∧ offP o hs q ∧ ((wn o q = 0 ∧ ∀ h ∈ hs, wn h q = 0) ∨ (wn o q = 1 ∧ ∃ h ∈ hs, wn h q = 1 ∧ ∀ x ∈ hs, x = h ∨ wn x q = 0))) := by
  unfold whV
  rcases ho.inV q with ⟨e, _⟩ | ⟨e, h1, h2⟩ | ⟨e, h1, h2⟩
  · rw [e]; exact .inl rfl
  · rw [e, if_neg (by decide)]
    rcases whL_cases (q := q) hr with i | ⟨i, k⟩ | ⟨i, h, hh, k1, k2⟩
    · exact .inl i
    · exact .inr (.inl ⟨i, h2, fun h hh => (k h hh).2⟩)
    · have hall := aside_wn hr P.sid h hh k1 k2
      exact .inr (.inr ⟨i, ⟨h1, fun x hx => (hall x hx).1⟩, .inr ⟨h2, h, hh, k2, fun x hx => (hall x hx).2⟩⟩)
  · rw [e, if_pos (by decide)]
    have hoff : offP o hs q := ⟨h1, fun h hh => Classical.byContradiction fun hn => by
      obtain ⟨ap, p, hp, hp0⟩ := P.ins h hh
      have := on_wn (hr h hh) ap.symm hp hn
      omega⟩
    refine .inr (.inr ⟨rfl, hoff, .inl ⟨h2, fun h hh => ?_⟩⟩)
    rcases (hr h hh).simp.wn01 (hr h hh).area (hoff.2 h hh) with e | e
    · exact e
    · have := P.hole_in hoff hh (by omega); omega
theorem whV_out {o : List P2} {hs : List (List P2)} (P : Plg o hs) (ho : RgOk o) (hr : ∀ h ∈ hs, RgOk h) {q : P2} (h : whV o hs q < 0) : offP o hs q ∧ wnP o hs q = 0 := by
  rcases whV_cases P ho hr q with e | ⟨e, _⟩ | ⟨_, hoff, h1⟩
  · omega
  · omega
  · refine ⟨hoff, ?_⟩
    rcases h1 with ⟨h1, h2⟩ | ⟨h1, x, hx, h2, h3⟩
    · rw [wnP_zero h2, h1]
    · rcases holes01 P.sh P.ah P.sid hoff.2 with hz | ⟨y, hy, _, h5⟩
      · have := hz x hx; omega
      · rw [h5, h1]; rfl
theorem cvS_pA (x0 y0 x1 y1 : Rat) (o : List P2) (hs : List (List P2)) : cvS x0 y0 x1 y1 o hs = pA x0 y0 x1 y1 o hs / 2 := by
  have key : ∀ (hs : List (List P2)) (s : Rat), hs.foldl (fun a h => a - wiQ x0 y0 x1 y1 h) s = s + (pA x0 y0 x1 y1 o hs / 2 - wiQ x0 y0 x1 y1 o) := by
    intro hs
    induction hs with
    | nil => intro s; simp only [List.foldl_nil, pA, wiQ]; grind
    | cons h hs ih => intro s; rw [List.foldl_cons, ih]; simp only [pA, wiQ]; grind
  unfold cvS
  rw [key]; grind
def arS (o : List P2) (hs : List (List P2)) : Rat := hs.foldl (fun a h => a - tot crQ h / 2) (tot crQ o / 2)
theorem arS_pT (o : List P2) (hs : List (List P2)) : arS o hs = pT ar o hs / 2 := by
  have key : ∀ (hs : List (List P2)) (s : Rat), hs.foldl (fun a h => a - tot crQ h / 2) s = s + (pT ar o hs / 2 - tot ar o / 2) := by
    intro hs
    induction hs with
    | nil => intro s; simp only [List.foldl_nil, pT]; grind
    | cons h hs ih => intro s; rw [List.foldl_cons, ih]; simp only [pT, crQ_ar]; grind
  unfold arS
  rw [key, crQ_ar]; grind
def sumN (f : Nat → Rat) : Nat → Rat
  | 0 => 0
  | n + 1 => sumN f n + f n
theorem sumN_add (f : Nat → Rat) (a : Nat) : ∀ b, sumN f (a + b) = sumN f a + sumN (fun j => f (a + j)) b
  | 0 => by simp only [Nat.add_zero, sumN]; grind
  | b + 1 => by rw [← Nat.add_assoc]; simp only [sumN]; rw [sumN_add f a b]; grind
theorem sumN_congr {f g : Nat → Rat} : ∀ n, (∀ j, j < n → f j = g j) → sumN f n = sumN g n
  | 0, _ => rfl
  | n + 1, h => by simp only [sumN]; rw [sumN_congr n (fun j hj => h j (by omega)), h n (by omega)]
theorem sumN_mul (f : Nat → Rat) (k : Rat) : ∀ n, sumN (fun j => f j * k) n = sumN f n * k
  | 0 => by simp only [sumN]; grind
  | n + 1 => by simp only [sumN]; rw [sumN_mul f k n]; grind
theorem ratio_lt {c i j : Int} (hc : 0 < c) (h : i < j) : Rat.divInt i c < Rat.divInt j c := by
  rw [di_eq, di_eq]
  have hq : (0 : Rat) < (c : Rat) := by exact_mod_cast hc
  have hij : (i : Rat) < (j : Rat) := by exact_mod_cast h
  have := Rat.mul_pos (show 0 < (j : Rat) - i by grind) (Rat.inv_pos.2 hq)
  rw [Rat.div_def, Rat.div_def]; grind
theorem px_mono {x0 x1 : Rat} {c i j : Int} (hc : 0 < c) (h : x0 < x1) (hij : i < j) : pxX x0 x1 c i < pxX x0 x1 c j := by
  have := Rat.mul_pos (show 0 < Rat.divInt j c - Rat.divInt i c by have := ratio_lt hc hij; grind) (show 0 < x1 - x0 by grind)
  unfold pxX; grind
theorem py_mono {y0 y1 : Rat} {r i j : Int} (hr : 0 < r) (h : y0 < y1) (hij : i < j) : pxY y0 y1 r j < pxY y0 y1 r i := by
  have := Rat.mul_pos (show 0 < Rat.divInt j r - Rat.divInt i r by have := ratio_lt hr hij; grind) (show 0 < y1 - y0 by grind)
  unfold pxY; grind
theorem px_ends {x0 x1 : Rat} {c : Int} (hc : 0 < c) : pxX x0 x1 c 0 = x0 ∧ pxX x0 x1 c c = x1 := by
  have hq : (0 : Rat) < (c : Rat) := by exact_mod_cast hc
  unfold pxX
  rw [di_eq, di_eq]
  constructor
  · push_cast; grind
  · grind
theorem py_ends {y0 y1 : Rat} {r : Int} (hr : 0 < r) : pxY y0 y1 r 0 = y1 ∧ pxY y0 y1 r r = y0 := by
  have hq : (0 : Rat) < (r : Rat) := by exact_mod_cast hr
  unfold pxY
  rw [di_eq, di_eq]
  constructor
  · push_cast; grind
  · grind
def ppA (x0 y0 x1 y1 : Rat) (c r : Int) (o : List P2) (hs : List (List P2)) (j : Nat) : Rat :=
  pA (pxQ x0 y0 x1 y1 c r j).1.1 (pxQ x0 y0 x1 y1 c r j).1.2 (pxQ x0 y0 x1 y1 c r j).2.1 (pxQ x0 y0 x1 y1 c r j).2.2 o hs
theorem row_sum {x0 x1 : Rat} {c : Int} (hc : 0 < c) (hx : x0 < x1) (a b : Rat) (o : List P2) (hs : List (List P2)) :
    ∀ k : Nat, sumN (fun m => pA (pxX x0 x1 c m) a (pxX x0 x1 c ((m : Int) + 1)) b o hs) (k + 1) = pA (pxX x0 x1 c 0) a (pxX x0 x1 c ((k : Int) + 1)) b o hs
  | 0 => by
    simp only [sumN]
    rw [Rat.zero_add]; rfl
  | k + 1 => by
    rw [sumN, row_sum hc hx a b o hs k]
    have l1 := px_mono (x0 := x0) (x1 := x1) (i := 0) (j := ((k + 1 : Nat) : Int)) hc hx (by omega)
    have l2 := px_mono (x0 := x0) (x1 := x1) (i := ((k + 1 : Nat) : Int)) (j := ((k + 1 : Nat) : Int) + 1) hc hx (by omega)
    rw [show ((k : Int) + 1) = ((k + 1 : Nat) : Int) by rfl]
    exact (pA_x (m := pxX x0 x1 c ((k + 1 : Nat) : Int)) l1 (Rat.le_of_lt l2) o hs).symm
theorem pix_sum {x0 y0 x1 y1 : Rat} {c r : Nat} (hc : 0 < c) (hr : 0 < r) (hx : x0 < x1) (hy : y0 < y1) (o : List P2) (hs : List (List P2)) :
    sumN (ppA x0 y0 x1 y1 c r o hs) (c * r) = pA x0 y0 x1 y1 o hs := by
  have row : ∀ q : Nat, sumN (fun m => ppA x0 y0 x1 y1 c r o hs (c * q + m)) c = pA x0 (pxY y0 y1 r ((q : Int) + 1)) x1 (pxY y0 y1 r q) o hs := by
    intro q
    obtain ⟨k, rfl⟩ : ∃ k, c = k + 1 := ⟨c - 1, by omega⟩
    have e := row_sum (x0 := x0) (x1 := x1) (c := ((k + 1 : Nat) : Int)) (by omega) hx (pxY y0 y1 r ((q : Int) + 1)) (pxY y0 y1 r q) o hs k
    have en := px_ends (x0 := x0) (x1 := x1) (c := ((k + 1 : Nat) : Int)) (by omega)
    rw [show ((k : Int) + 1) = ((k + 1 : Nat) : Int) by rfl, en.1, en.2] at e
    rw [← e]
    refine sumN_congr _ fun m hm => ?_
    have t := tdm (b := ((k + 1 : Nat) : Int)) (q := (q : Int)) (m := (m : Int)) (by omega) (by omega) (by omega) (by omega)
    have ej : (((k + 1) * q + m : Nat) : Int) = (q : Int) * ((k + 1 : Nat) : Int) + m := by push_cast; rw [Int.mul_comm]
    unfold ppA pxQ
    simp only
    rw [ej, t.1, t.2]
  have rows : ∀ k : Nat, sumN (ppA x0 y0 x1 y1 c r o hs) (c * (k + 1)) = pA x0 (pxY y0 y1 r ((k : Int) + 1)) x1 y1 o hs := by
    intro k
    induction k with
    | zero =>
      have := row 0
      have en := py_ends (y0 := y0) (y1 := y1) (r := (r : Int)) (by omega)
      rw [show ((0 : Nat) : Int) = 0 by rfl, en.1] at this
      rw [show c * (0 + 1) = c by omega, show ((0 : Nat) : Int) = 0 by rfl, ← this]
      refine sumN_congr _ fun j hj => ?_
      rw [Nat.mul_zero, Nat.zero_add]
    | succ k ih =>
      rw [show c * (k + 1 + 1) = c * (k + 1) + c by rw [Nat.mul_add c (k + 1) 1, Nat.mul_one], sumN_add, ih, row (k + 1)]
      have l1 := py_mono (y0 := y0) (y1 := y1) (i := ((k + 1 : Nat) : Int)) (j := ((k + 1 : Nat) : Int) + 1) (r := (r : Int)) (by omega) hy (by omega)
      have l2 := py_mono (y0 := y0) (y1 := y1) (i := 0) (j := ((k + 1 : Nat) : Int)) (r := (r : Int)) (by omega) hy (by omega)
      have en := py_ends (y0 := y0) (y1 := y1) (r := (r : Int)) (by omega)
      rw [en.1] at l2
      rw [show ((k : Int) + 1) = ((k + 1 : Nat) : Int) by rfl, pA_y (y0 := pxY y0 y1 r (((k + 1 : Nat) : Int) + 1)) (m := pxY y0 y1 r ((k + 1 : Nat) : Int)) l1 (Rat.le_of_lt l2) o hs]
      grind
  obtain ⟨k, rfl⟩ : ∃ k, r = k + 1 := ⟨r - 1, by omega⟩
  rw [rows k]
  have en := py_ends (y0 := y0) (y1 := y1) (r := ((k + 1 : Nat) : Int)) (by omega)
  rw [show ((k : Int) + 1) = ((k + 1 : Nat) : Int) by rfl, en.2]
theorem pix_size {x0 y0 x1 y1 : Rat} {c r : Int} (hc : 0 < c) (hr : 0 < r) (j : Nat) :
    ((pxQ x0 y0 x1 y1 c r j).2.1 - (pxQ x0 y0 x1 y1 c r j).1.1) * ((pxQ x0 y0 x1 y1 c r j).2.2 - (pxQ x0 y0 x1 y1 c r j).1.2) = (x1 - x0) * (y1 - y0) / ((c : Rat) * r) := by
  have hq : (0 : Rat) < (c : Rat) := by exact_mod_cast hc
  have hq' : (0 : Rat) < (r : Rat) := by exact_mod_cast hr
  unfold pxQ pxX pxY
  simp only
  rw [di_eq, di_eq, di_eq, di_eq]
  push_cast
  have e1 : x0 + ((Int.tmod j c : Int) + 1 : Rat) / c * (x1 - x0) - (x0 + (Int.tmod j c : Int) / (c : Rat) * (x1 - x0)) = (x1 - x0) / c := by grind
  have e2 : y1 + (Int.tdiv j c : Int) / (r : Rat) * (y0 - y1) - (y1 + ((Int.tdiv j c : Int) + 1 : Rat) / r * (y0 - y1)) = (y1 - y0) / r := by grind
  rw [e1, e2]; grind
theorem pix_lt {x0 y0 x1 y1 : Rat} {c r : Int} (hc : 0 < c) (hr : 0 < r) (hx : x0 < x1) (hy : y0 < y1) (j : Nat) :
    (pxQ x0 y0 x1 y1 c r j).1.1 < (pxQ x0 y0 x1 y1 c r j).2.1 ∧ (pxQ x0 y0 x1 y1 c r j).1.2 < (pxQ x0 y0 x1 y1 c r j).2.2 := ⟨px_lt hc hx, py_lt hr hy⟩
theorem cvP_pp {x0 y0 x1 y1 : Rat} {c r : Int} (o : List P2) (hs : List (List P2)) (j : Nat) :
    cvP x0 y0 x1 y1 c r o hs j = ppA x0 y0 x1 y1 c r o hs j / 2 / (((pxQ x0 y0 x1 y1 c r j).2.1 - (pxQ x0 y0 x1 y1 c r j).1.1) * ((pxQ x0 y0 x1 y1 c r j).2.2 - (pxQ x0 y0 x1 y1 c r j).1.2)) := by
  unfold cvP cvQ ppA; rw [cvS_pA]
theorem cvP_rng {x0 y0 x1 y1 : Rat} {c r : Int} (hc : 0 < c) (hr : 0 < r) (hx : x0 < x1) (hy : y0 < y1) {o : List P2} {hs : List (List P2)} (P : Plg o hs) (j : Nat) :
    0 ≤ cvP x0 y0 x1 y1 c r o hs j ∧ cvP x0 y0 x1 y1 c r o hs j ≤ 1 := by
  obtain ⟨l1, l2⟩ := pix_lt (c := c) (r := r) hc hr hx hy j
  have lo := P.box_lo (Rat.le_of_lt l1) l2
  have hi := P.box_hi (Rat.le_of_lt l1) l2
  have hz := Rat.mul_pos (show 0 < (pxQ x0 y0 x1 y1 c r j).2.1 - (pxQ x0 y0 x1 y1 c r j).1.1 by grind) (show 0 < (pxQ x0 y0 x1 y1 c r j).2.2 - (pxQ x0 y0 x1 y1 c r j).1.2 by grind)
  rw [cvP_pp]
  unfold ppA
  exact div_unit (by grind) (by grind) hz
def midP (a b : P2) : P2 := lin a b (1 / 2)
theorem cvP_mid {x0 y0 x1 y1 : Rat} {c r : Int} (hc : 0 < c) (hr : 0 < r) (hx : x0 < x1) (hy : y0 < y1) {o : List P2} {hs : List (List P2)} (P : Plg o hs) (ho : RgOk o) (hrg : ∀ h ∈ hs, RgOk h) (j : Nat)
    (h1 : cvP x0 y0 x1 y1 c r o hs j = 1) : 0 ≤ whV o hs (midP (pxQ x0 y0 x1 y1 c r j).1 (pxQ x0 y0 x1 y1 c r j).2) := by
  refine Classical.byContradiction fun hn => ?_
  obtain ⟨hoff, hz⟩ := whV_out P ho hrg (show whV o hs (midP (pxQ x0 y0 x1 y1 c r j).1 (pxQ x0 y0 x1 y1 c r j).2) < 0 by omega)
  obtain ⟨l1, l2⟩ := pix_lt (c := c) (r := r) hc hr hx hy j
  rw [cvP_pp] at h1
  unfold ppA at h1
  generalize pxQ x0 y0 x1 y1 c r j = b at *
  have hlt := P.not_full (x0 := b.1.1) (x1 := b.2.1) (y0 := b.1.2) (y1 := b.2.2) hoff hz (by simp only [midP, lin]; constructor <;> grind) (by simp only [midP, lin]; constructor <;> grind)
  have hz := Rat.mul_pos (show 0 < b.2.1 - b.1.1 by grind) (show 0 < b.2.2 - b.1.2 by grind)
  generalize (b.2.1 - b.1.1) * (b.2.2 - b.1.2) = z at *
  have : pA b.1.1 b.1.2 b.2.1 b.2.2 o hs / 2 = z := by
    have hz' : z ≠ 0 := by grind
    grind
  grind
theorem cvP_sum {x0 y0 x1 y1 : Rat} {c r : Nat} (hc : 0 < c) (hr : 0 < r) (hx : x0 < x1) (hy : y0 < y1) (o : List P2) (hs : List (List P2)) :
    sumN (cvP x0 y0 x1 y1 c r o hs) (c * r) * ((x1 - x0) * (y1 - y0) / ((c : Int) * (r : Int) : Int)) = pA x0 y0 x1 y1 o hs / 2 := by
  have hq : (0 : Rat) < ((c : Int) : Rat) := by exact_mod_cast hc
  have hq' : (0 : Rat) < ((r : Int) : Rat) := by exact_mod_cast hr
  have hz := Rat.mul_pos (show 0 < x1 - x0 by grind) (show 0 < y1 - y0 by grind)
  rw [← sumN_mul, ← pix_sum hc hr hx hy o hs]
  have e : ∀ j, cvP x0 y0 x1 y1 c r o hs j * ((x1 - x0) * (y1 - y0) / ((c : Int) * (r : Int) : Int)) = ppA x0 y0 x1 y1 c r o hs j * (1 / 2) := fun j => by
    rw [cvP_pp, pix_size (by omega) (by omega)]
    push_cast at hq hq' ⊢
    generalize (x1 - x0) * (y1 - y0) = z at *
    generalize ppA x0 y0 x1 y1 (c : Int) (r : Int) o hs j = w
    have h1 := Rat.mul_pos hq hq'
    generalize (c : Rat) * (r : Rat) = m at *
    have h2 : z / m ≠ 0 := by
      rw [Rat.div_def]
      have := Rat.mul_pos hz (Rat.inv_pos.2 h1); grind
    generalize z / m = y at *
    grind
  rw [sumN_congr _ (fun j _ => e j), sumN_mul]; grind
end Go.Nv
end
