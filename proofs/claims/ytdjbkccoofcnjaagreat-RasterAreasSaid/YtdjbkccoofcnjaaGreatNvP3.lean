import Derived.Test.YtdjbkccoofcnjaaGreatNvP2
set_option linter.all false
set_option linter.unusedVariables false
set_option linter.unusedSimpArgs false
section
namespace Nw
set_option linter.unusedVariables false
set_option linter.unusedSimpArgs false
def swE' (e : P2 × P2) : P2 × P2 := (e.2, e.1)
def rvE (E : List (P2 × P2)) : List (P2 × P2) := E.map swE'
theorem rvE_sum {f : P2 → P2 → Rat} (hf : ∀ p q, f q p = - f p q) : ∀ E, sumE f (rvE E) = - sumE f E
  | [] => by simp only [rvE, List.map_nil, sumE]; grind
  | e :: E => by simp only [rvE, List.map_cons, sumE, swE']; rw [show List.map swE' E = rvE E from rfl, rvE_sum hf E, hf]; grind
theorem Exa.anti {f} (h : Exa f) (p q : P2) : f q p = - f p q := by
  have := h p q 0 1 0
  rw [lin_zero, lin_one, h.self] at this
  grind
theorem rvE_wn (q : P2) : ∀ E, wnE (rvE E) q = - wnE E q
  | [] => rfl
  | e :: E => by
    have ih := rvE_wn q E
    simp only [wnE, rvE, List.map_cons, sumZ, swE'] at ih ⊢
    rw [ih, crI_swap]; omega
theorem sumE_app (f : P2 → P2 → Rat) (a b) : sumE f (a ++ b) = sumE f a + sumE f b := sumE_append f a b
theorem wnE_app (a b : List (P2 × P2)) (q : P2) : wnE (a ++ b) q = wnE a q + wnE b q := sumZ_append _ a b
def pE (o : List P2) : List (List P2) → List (P2 × P2)
  | [] => cyc o
  | h :: hs => rvE (cyc h) ++ pE o hs
def wnP (o : List P2) : List (List P2) → P2 → Int
  | [], q => wn o q
  | h :: hs, q => wnP o hs q - wn h q
def pA (x0 y0 x1 y1 : Rat) (o : List P2) : List (List P2) → Rat
  | [] => boxA x0 y0 x1 y1 o
  | h :: hs => pA x0 y0 x1 y1 o hs - boxA x0 y0 x1 y1 h
def pT (f : P2 → P2 → Rat) (o : List P2) : List (List P2) → Rat
  | [] => tot f o
  | h :: hs => pT f o hs - tot f h
theorem pE_sum {f : P2 → P2 → Rat} (hf : ∀ p q, f q p = - f p q) (o) : ∀ hs, sumE f (pE o hs) = pT f o hs
  | [] => rfl
  | h :: hs => by
    simp only [pE, pT]
    rw [sumE_app, rvE_sum hf, pE_sum hf o hs]
    show - tot f h + _ = _
    grind
theorem pE_clo (o) (hs) : Clo (pE o hs) := fun c => by
  rw [pE_sum (fun p q => by grind)]
  induction hs with
  | nil => exact tot_diff c o
  | cons h hs ih => simp only [pT]; rw [ih, tot_diff]; grind
theorem pE_wn (o) (q : P2) : ∀ hs, wnE (pE o hs) q = wnP o hs q
  | [] => rfl
  | h :: hs => by
    simp only [pE, wnP]
    rw [wnE_app, rvE_wn, pE_wn o q hs]
    show - wn h q + _ = _
    omega
theorem hB_exa (x0 y0 x1 y1) : Exa (hB x0 y0 x1 y1) := hf_exa _ (hf_exa _ (hf_exa _ (hf_exa _ ar_exa)))
theorem pA_hB (x0 y0 x1 y1 : Rat) (o) : ∀ hs, pA x0 y0 x1 y1 o hs = pT (hB x0 y0 x1 y1) o hs
  | [] => boxA_hB ..
  | h :: hs => by simp only [pA, pT]; rw [pA_hB x0 y0 x1 y1 o hs, boxA_hB]
theorem pA_sum (x0 y0 x1 y1 : Rat) (o hs) : pA x0 y0 x1 y1 o hs = sumE (hB x0 y0 x1 y1) (pE o hs) := by
  rw [pA_hB, pE_sum (fun p q => (hB_exa x0 y0 x1 y1).anti p q)]
theorem pA_x {x0 y0 x1 y1 m : Rat} (h1 : x0 < m) (h2 : m ≤ x1) (o) : ∀ hs, pA x0 y0 x1 y1 o hs = pA x0 y0 m y1 o hs + pA m y0 x1 y1 o hs
  | [] => boxA_x h1 h2 o
  | h :: hs => by simp only [pA]; rw [pA_x h1 h2 o hs, boxA_x h1 h2 h]; grind
theorem pA_y {x0 y0 x1 y1 m : Rat} (h1 : y0 < m) (h2 : m ≤ y1) (o) : ∀ hs, pA x0 y0 x1 y1 o hs = pA x0 y0 x1 m o hs + pA x0 m x1 y1 o hs
  | [] => boxA_y h1 h2 o
  | h :: hs => by simp only [pA]; rw [pA_y h1 h2 o hs, boxA_y h1 h2 h]; grind
def offP (o : List P2) (hs : List (List P2)) (q : P2) : Prop := offL o q ∧ ∀ h ∈ hs, offL h q
theorem offE_pE {o : List P2} {q : P2} : ∀ {hs}, offE (pE o hs) q → offP o hs q
  | [], h => ⟨h, by simp⟩
  | a :: hs, h => by
    have h1 : offE (pE o hs) q := fun e he => h e (List.mem_append.2 (.inr he))
    obtain ⟨r1, r2⟩ := offE_pE h1
    refine ⟨r1, fun b hb => ?_⟩
    rcases List.mem_cons.1 hb with rfl | hb
    · intro e he t t0 t1 heq
      refine h (swE' e) (List.mem_append.2 (.inl (List.mem_map.2 ⟨e, he, rfl⟩))) (1 - t) (by grind) (by grind) ?_
      show lin e.2 e.1 (1 - t) = q
      rw [lin_swap, ← heq]; congr 1; grind
    · exact r2 b hb
theorem pA_lo {o hs} {x0 x1 y0 y1 k : Rat} (hx : x0 ≤ x1) (hy : y0 < y1)
    (hw : ∀ x y, x0 < x → x < x1 → y0 < y → y < y1 → offP o hs (x, y) → k ≤ (wnP o hs (x, y) : Rat)) : 2 * k * ((x1 - x0) * (y1 - y0)) ≤ pA x0 y0 x1 y1 o hs := by
  refine slabs' (P := fun a b => y0 ≤ a → b ≤ y1 → 2 * k * ((x1 - x0) * (b - a)) ≤ pA x0 a x1 b o hs) (fun a m b h1 h2 p1 p2 ha hb => ?_) ((pE o hs).flatMap (htE x0 x1)) (fun a b hab hh ha hb => ?_) hy Rat.le_refl Rat.le_refl
  · have q1 := p1 ha (by grind)
    have q2 := p2 (by grind) hb
    rw [pA_y (m := m) h1 (by grind)]
    grind
  · rw [pA_sum]
    refine slab_lo (pE_clo o hs) hx hab (fun e he => fits_ht hab fun c hc => hh c (List.mem_flatMap.2 ⟨e, he, hc⟩)) (fun x y a1 a2 a3 a4 ho => ?_)
    rw [pE_wn]
    exact hw x y a1 a2 (by grind) (by grind) (offE_pE ho)
theorem pA_hi {o hs} {x0 x1 y0 y1 k : Rat} (hx : x0 ≤ x1) (hy : y0 < y1)
    (hw : ∀ x y, x0 < x → x < x1 → y0 < y → y < y1 → offP o hs (x, y) → (wnP o hs (x, y) : Rat) ≤ k) : pA x0 y0 x1 y1 o hs ≤ 2 * k * ((x1 - x0) * (y1 - y0)) := by
  refine slabs' (P := fun a b => y0 ≤ a → b ≤ y1 → pA x0 a x1 b o hs ≤ 2 * k * ((x1 - x0) * (b - a))) (fun a m b h1 h2 p1 p2 ha hb => ?_) ((pE o hs).flatMap (htE x0 x1)) (fun a b hab hh ha hb => ?_) hy Rat.le_refl Rat.le_refl
  · have q1 := p1 ha (by grind)
    have q2 := p2 (by grind) hb
    rw [pA_y (m := m) h1 (by grind)]
    grind
  · rw [pA_sum]
    refine slab_hi (pE_clo o hs) hx hab (fun e he => fits_ht hab fun c hc => hh c (List.mem_flatMap.2 ⟨e, he, hc⟩)) (fun x y a1 a2 a3 a4 ho => ?_)
    rw [pE_wn]
    exact hw x y a1 a2 (by grind) (by grind) (offE_pE ho)
structure Aside (a b : List P2) : Prop where
  ap : Apart a b
  l : ∃ p ∈ b, wn a p = 0
  r : ∃ p ∈ a, wn b p = 0
structure Plg (o : List P2) (hs : List (List P2)) : Prop where
  so : Simp o
  ao : 0 < tot ar o
  sh : ∀ h ∈ hs, Simp h
  ah : ∀ h ∈ hs, 0 < tot ar h
  ins : ∀ h ∈ hs, Apart o h ∧ ∃ p ∈ h, wn o p ≠ 0
  sid : hs.Pairwise Aside
theorem Simp.wn01 {l : List P2} (h : Simp l) (ha : 0 < tot ar l) {q : P2} (hq : offL l q) : wn l q = 0 ∨ wn l q = 1 := by
  have := h.lvl_pos ha
  rcases h.sides hq with e | e
  · right; omega
  · left; omega
theorem holes01 : ∀ {hs : List (List P2)} {q : P2}, (∀ h ∈ hs, Simp h) → (∀ h ∈ hs, 0 < tot ar h) → hs.Pairwise Aside → (∀ h ∈ hs, offL h q) →
    (∀ h ∈ hs, wn h q = 0) ∨ ∃ h ∈ hs, wn h q = 1 ∧ ∀ o : List P2, wnP o hs q = wn o q - 1
  | [], q, _, _, _, _ => .inl (by simp)
  | a :: hs, q, s, ar', pw, of => by
    rw [List.pairwise_cons] at pw
    have zero : ∀ {hs : List (List P2)}, (∀ h ∈ hs, wn h q = 0) → ∀ o : List P2, wnP o hs q = wn o q := by
      intro hs
      induction hs with
      | nil => intro _ o; rfl
      | cons b hs ih => intro hz o; simp only [wnP]; rw [ih (fun h hh => hz h (by simp [hh])), hz b (by simp)]; omega
    have ih := holes01 (hs := hs) (q := q) (fun h hh => s h (by simp [hh])) (fun h hh => ar' h (by simp [hh])) pw.2 (fun h hh => of h (by simp [hh]))
    rcases (s a (by simp)).wn01 (ar' a (by simp)) (of a (by simp)) with ha | ha
    · rcases ih with ih | ⟨h, hh, h1, h2⟩
      · left; intro h hh
        rcases List.mem_cons.1 hh with rfl | hh
        · exact ha
        · exact ih h hh
      · right
        refine ⟨h, by simp [hh], h1, fun o => ?_⟩
        simp only [wnP]; rw [h2 o, ha]; omega
    · right
      have hz : ∀ h ∈ hs, wn h q = 0 := fun h hh => by
        obtain ⟨ap, ⟨p, hp, hp0⟩, ⟨r, hr, hr0⟩⟩ := pw.1 h hh
        rcases beside_law (s a (by simp)) ap hp hp0 hr hr0 (of a (by simp)) (of h (by simp [hh])) with e | e
        · omega
        · exact e
      refine ⟨a, by simp, ha, fun o => ?_⟩
      simp only [wnP]; rw [zero hz o, ha]
theorem wnP_zero {q : P2} : ∀ {hs : List (List P2)}, (∀ h ∈ hs, wn h q = 0) → ∀ o : List P2, wnP o hs q = wn o q
  | [], _, o => rfl
  | b :: hs, hz, o => by simp only [wnP]; rw [wnP_zero (fun h hh => hz h (by simp [hh])), hz b (by simp)]; omega
theorem Plg.hole_in {o hs} (P : Plg o hs) {q : P2} (hq : offP o hs q) {h : List P2} (hh : h ∈ hs) (h1 : wn h q ≠ 0) : wn o q = 1 := by
  obtain ⟨ap, p, hp, hp0⟩ := P.ins h hh
  rcases within_law P.so ap hp hp0 hq.1 (hq.2 h hh) with e | e
  · exact absurd e h1
  · rcases P.so.wn01 P.ao hq.1 with e2 | e2
    · rw [e2] at e; exact absurd e.symm hp0
    · exact e2
theorem Plg.wn01 {o hs} (P : Plg o hs) {q : P2} (hq : offP o hs q) : wnP o hs q = 0 ∨ wnP o hs q = 1 := by
  rcases holes01 P.sh P.ah P.sid hq.2 with hz | ⟨h, hh, h1, h2⟩
  · rw [wnP_zero hz]; exact P.so.wn01 P.ao hq.1
  · left; rw [h2, P.hole_in hq hh (by omega)]; rfl
theorem Plg.box_lo {o hs} (P : Plg o hs) {x0 x1 y0 y1 : Rat} (hx : x0 ≤ x1) (hy : y0 < y1) : 0 ≤ pA x0 y0 x1 y1 o hs := by
  have := pA_lo (o := o) (hs := hs) (k := 0) hx hy (fun x y _ _ _ _ ho => by
    rcases P.wn01 ho with e | e
    · rw [e]; exact Rat.le_refl
    · rw [e]; show (0:Rat) ≤ 1; grind)
  grind
theorem Plg.box_hi {o hs} (P : Plg o hs) {x0 x1 y0 y1 : Rat} (hx : x0 ≤ x1) (hy : y0 < y1) : pA x0 y0 x1 y1 o hs ≤ 2 * ((x1 - x0) * (y1 - y0)) := by
  have := pA_hi (o := o) (hs := hs) (k := 1) hx hy (fun x y _ _ _ _ ho => by
    rcases P.wn01 ho with e | e
    · rw [e]; show (0:Rat) ≤ 1; grind
    · rw [e]; exact Rat.le_refl)
  grind
theorem clear_box {q : P2} : ∀ (E : List (P2 × P2)), offE E q → ∃ d : Rat, 0 < d ∧ ∀ p : P2, -d ≤ p.1 - q.1 → p.1 - q.1 ≤ d → -d ≤ p.2 - q.2 → p.2 - q.2 ≤ d → ∀ e ∈ E, Disj q p e.1 e.2
  | [], _ => ⟨1, by grind, by simp⟩
  | e :: E, h => by
    obtain ⟨d, d0, hd⟩ := clear_box E (fun e he => h e (by simp [he]))
    obtain ⟨g, g1, g2, g3⟩ := lf_sep (h e (by simp))
    -- the size in which g stays positive
    obtain ⟨A, hA0, hA1, hA2⟩ : ∃ A : Rat, 0 ≤ A ∧ -A ≤ g.1 ∧ g.1 ≤ A := by
      by_cases h0 : 0 ≤ g.1
      · exact ⟨g.1, h0, by grind, Rat.le_refl⟩
      · exact ⟨-g.1, by grind, by grind, by grind⟩
    obtain ⟨B, hB0, hB1, hB2⟩ : ∃ B : Rat, 0 ≤ B ∧ -B ≤ g.2.1 ∧ g.2.1 ≤ B := by
      by_cases h0 : 0 ≤ g.2.1
      · exact ⟨g.2.1, h0, by grind, Rat.le_refl⟩
      · exact ⟨-g.2.1, by grind, by grind, by grind⟩
    have hs : 0 < A + B + 1 := by grind
    have hr : 0 < lf g q / (A + B + 1) := by
      rw [Rat.div_def]; exact Rat.mul_pos g1 (Rat.inv_pos.2 hs)
    obtain ⟨r, hrd⟩ : ∃ r, r = lf g q / (A + B + 1) := ⟨_, rfl⟩
    have hre : r * (A + B + 1) = lf g q := by
      have : A + B + 1 ≠ 0 := by grind
      rw [hrd]; grind
    rw [← hrd] at hr
    refine ⟨if d ≤ r then d else r, by split <;> grind, fun p p1 p2 p3 p4 f hf => ?_⟩
    have k : (if d ≤ r then d else r) ≤ d ∧ (if d ≤ r then d else r) ≤ r := by split <;> constructor <;> grind
    generalize (if d ≤ r then d else r) = m at *
    rcases List.mem_cons.1 hf with rfl | hf
    · -- all of the box is on one side
      have hp : 0 < lf g p := by
        have e1 : lf g p = lf g q + g.1 * (p.1 - q.1) + g.2.1 * (p.2 - q.2) := by simp only [lf]; grind
        have m1 : -(A * r) ≤ g.1 * (p.1 - q.1) := by
          have n1 := Rat.mul_nonneg (show 0 ≤ A - g.1 by grind) (show 0 ≤ r + (p.1 - q.1) by grind)
          have n2 := Rat.mul_nonneg (show 0 ≤ A + g.1 by grind) (show 0 ≤ r - (p.1 - q.1) by grind)
          have n3 := Rat.mul_nonneg (show 0 ≤ A + g.1 by grind) (show 0 ≤ r + (p.1 - q.1) by grind)
          have n4 := Rat.mul_nonneg (show 0 ≤ A - g.1 by grind) (show 0 ≤ r - (p.1 - q.1) by grind)
          grind
        have m2 : -(B * r) ≤ g.2.1 * (p.2 - q.2) := by
          have n1 := Rat.mul_nonneg (show 0 ≤ B - g.2.1 by grind) (show 0 ≤ r + (p.2 - q.2) by grind)
          have n2 := Rat.mul_nonneg (show 0 ≤ B + g.2.1 by grind) (show 0 ≤ r - (p.2 - q.2) by grind)
          have n3 := Rat.mul_nonneg (show 0 ≤ B + g.2.1 by grind) (show 0 ≤ r + (p.2 - q.2) by grind)
          have n4 := Rat.mul_nonneg (show 0 ≤ B - g.2.1 by grind) (show 0 ≤ r - (p.2 - q.2) by grind)
          grind
        rw [e1]; grind
      intro s t s0 s1 t0 t1 heq
      have e1 := lf_lin g q p s
      have e2 := lf_lin g f.1 f.2 t
      rw [heq, e2] at e1
      have n1 : lf g f.1 + (lf g f.2 - lf g f.1) * t ≤ 0 := lin_le g2 g3 t0 t1
      have n2 : 0 < lf g q + (lf g p - lf g q) * s := by
        by_cases hs1 : s = 1
        · subst hs1; grind
        · have := Rat.mul_pos (show 0 < 1 - s by grind) g1
          have := Rat.mul_nonneg s0 (show 0 ≤ lf g p by grind)
          grind
      grind
    · exact hd p (by grind) (by grind) (by grind) (by grind) f hf
theorem pE_mem {o : List P2} : ∀ {hs : List (List P2)} {q : P2}, offP o hs q → offE (pE o hs) q
  | [], q, h => h.1
  | a :: hs, q, h => by
    intro e he
    rcases List.mem_append.1 he with he | he
    · obtain ⟨e', he', rfl⟩ := List.mem_map.1 he
      intro t t0 t1 heq
      refine h.2 a (by simp) e' he' (1 - t) (by grind) (by grind) ?_
      rw [← heq]
      show lin e'.1 e'.2 (1 - t) = lin e'.2 e'.1 t
      rw [← lin_swap]
    · exact pE_mem ⟨h.1, fun b hb => h.2 b (by simp [hb])⟩ e he
theorem wnP_same {o : List P2} {p q : P2} : ∀ {hs : List (List P2)}, (∀ f ∈ pE o hs, Disj p q f.1 f.2) → wnP o hs p = wnP o hs q
  | [], h => wn_same h
  | a :: hs, h => by
    simp only [wnP]
    rw [wnP_same (hs := hs) (fun f hf => h f (List.mem_append.2 (.inr hf))), wn_same (l := a) (fun f hf => by
      have := h (swE' f) (List.mem_append.2 (.inl (List.mem_map.2 ⟨f, hf, rfl⟩)))
      exact this.swap2)]
theorem Plg.not_full {o hs} (P : Plg o hs) {x0 x1 y0 y1 : Rat} {q : P2} (hq : offP o hs q) (h0 : wnP o hs q = 0) (qx : x0 < q.1 ∧ q.1 < x1) (qy : y0 < q.2 ∧ q.2 < y1) :
    pA x0 y0 x1 y1 o hs < 2 * ((x1 - x0) * (y1 - y0)) := by
  obtain ⟨d0, hd0, hd⟩ := clear_box (pE o hs) (pE_mem hq)
  obtain ⟨d, e0, e1, e2, e3, e4, e5⟩ : ∃ d : Rat, 0 < d ∧ d ≤ d0 ∧ x0 < q.1 - d ∧ q.1 + d < x1 ∧ y0 < q.2 - d ∧ q.2 + d < y1 := by
    obtain ⟨a, ha⟩ : ∃ a : Rat, 0 < a ∧ a ≤ d0 ∧ a ≤ (q.1 - x0) / 2 := by
      by_cases h : d0 ≤ (q.1 - x0) / 2
      · exact ⟨d0, hd0, Rat.le_refl, h⟩
      · exact ⟨(q.1 - x0) / 2, by grind, by grind, Rat.le_refl⟩
    obtain ⟨b, hb⟩ : ∃ b : Rat, 0 < b ∧ b ≤ a ∧ b ≤ (x1 - q.1) / 2 := by
      by_cases h : a ≤ (x1 - q.1) / 2
      · exact ⟨a, ha.1, Rat.le_refl, h⟩
      · exact ⟨(x1 - q.1) / 2, by grind, by grind, Rat.le_refl⟩
    obtain ⟨c, hc⟩ : ∃ c : Rat, 0 < c ∧ c ≤ b ∧ c ≤ (q.2 - y0) / 2 := by
      by_cases h : b ≤ (q.2 - y0) / 2
      · exact ⟨b, hb.1, Rat.le_refl, h⟩
      · exact ⟨(q.2 - y0) / 2, by grind, by grind, Rat.le_refl⟩
    obtain ⟨d, hd⟩ : ∃ d : Rat, 0 < d ∧ d ≤ c ∧ d ≤ (y1 - q.2) / 2 := by
      by_cases h : c ≤ (y1 - q.2) / 2
      · exact ⟨c, hc.1, Rat.le_refl, h⟩
      · exact ⟨(y1 - q.2) / 2, by grind, by grind, Rat.le_refl⟩
    exact ⟨d, hd.1, by grind, by grind, by grind, by grind, by grind⟩
  have mid := pA_hi (o := o) (hs := hs) (x0 := q.1 - d) (x1 := q.1 + d) (y0 := q.2 - d) (y1 := q.2 + d) (k := 0) (by grind) (by grind) (fun x y a1 a2 a3 a4 ho => by
    have := wnP_same (o := o) (hs := hs) (p := q) (q := (x, y)) (hd (x, y) (by simp only; grind) (by simp only; grind) (by simp only; grind) (by simp only; grind))
    rw [← this, h0]; exact Rat.le_refl)
  have l := P.box_hi (x0 := x0) (x1 := q.1 - d) (y0 := y0) (y1 := y1) (by grind) (by grind)
  have r := P.box_hi (x0 := q.1 + d) (x1 := x1) (y0 := y0) (y1 := y1) (by grind) (by grind)
  have lo := P.box_hi (x0 := q.1 - d) (x1 := q.1 + d) (y0 := y0) (y1 := q.2 - d) (by grind) (by grind)
  have hi := P.box_hi (x0 := q.1 - d) (x1 := q.1 + d) (y0 := q.2 + d) (y1 := y1) (by grind) (by grind)
  rw [pA_x (m := q.1 - d) (by grind) (by grind), pA_x (x0 := q.1 - d) (m := q.1 + d) (by grind) (by grind), pA_y (x0 := q.1 - d) (x1 := q.1 + d) (m := q.2 - d) (by grind) (by grind), pA_y (x0 := q.1 - d) (x1 := q.1 + d) (y0 := q.2 - d) (m := q.2 + d) (by grind) (by grind)]
  have := Rat.mul_pos e0 e0
  grind
theorem Plg.part_le {o hs} (P : Plg o hs) {x0 x1 y0 y1 : Rat} (hx : x0 < x1) (hy : y0 < y1) : pA x0 y0 x1 y1 o hs ≤ pT ar o hs ∧ ((∀ p ∈ o, x0 ≤ p.1 ∧ p.1 ≤ x1 ∧ y0 ≤ p.2 ∧ p.2 ≤ y1) → pA x0 y0 x1 y1 o hs = pT ar o hs) := by
  have far : ∀ {a b c d : Rat}, (∀ l ∈ o :: hs, ∀ p ∈ l, a ≤ p.1 ∧ p.1 ≤ c ∧ b ≤ p.2 ∧ p.2 ≤ d) → pA a b c d o hs = pT ar o hs := by
    intro a b c d h
    have key : ∀ hs : List (List P2), (∀ l ∈ o :: hs, ∀ p ∈ l, a ≤ p.1 ∧ p.1 ≤ c ∧ b ≤ p.2 ∧ p.2 ≤ d) → pA a b c d o hs = pT ar o hs := by
      intro hs
      induction hs with
      | nil => intro h; exact boxA_far (h o (by simp))
      | cons k hs ih =>
        intro h
        simp only [pA, pT]
        rw [ih (fun l hl => h l (by rcases List.mem_cons.1 hl with rfl | hl <;> simp [*])), boxA_far (h k (by simp))]
    exact key hs h
  obtain ⟨X0, Y0, X1, Y1, hX, hY, hbox⟩ := far_box ((x0, y0) :: (x1, y1) :: (o :: hs).flatten)
  have b0 := hbox (x0, y0) (by simp)
  have b1 := hbox (x1, y1) (by simp)
  simp only at b0 b1
  have hall := far (a := X0) (b := Y0) (c := X1) (d := Y1) (fun l hl p hp => by
    have := hbox p (by simp only [List.mem_cons]; right; right; exact List.mem_flatten.2 ⟨l, hl, hp⟩)
    exact ⟨by grind, by grind, by grind, by grind⟩)
  have e : pA X0 Y0 X1 Y1 o hs = pA X0 Y0 x0 Y1 o hs + (pA x1 Y0 X1 Y1 o hs + (pA x0 Y0 x1 y0 o hs + (pA x0 y0 x1 y1 o hs + pA x0 y1 x1 Y1 o hs))) := by
    rw [pA_x (m := x0) (by grind) (by grind), pA_x (x0 := x0) (m := x1) (by grind) (by grind), pA_y (x0 := x0) (x1 := x1) (m := y0) (by grind) (by grind), pA_y (x0 := x0) (x1 := x1) (y0 := y0) (m := y1) (by grind) (by grind)]
    grind
  have p1 := P.box_lo (x0 := X0) (x1 := x0) (y0 := Y0) (y1 := Y1) (by grind) (by grind)
  have p2 := P.box_lo (x0 := x1) (x1 := X1) (y0 := Y0) (y1 := Y1) (by grind) (by grind)
  have p3 := P.box_lo (x0 := x0) (x1 := x1) (y0 := Y0) (y1 := y0) (by grind) (by grind)
  have p4 := P.box_lo (x0 := x0) (x1 := x1) (y0 := y1) (y1 := Y1) (by grind) (by grind)
  refine ⟨by grind, fun hin => ?_⟩
  -- outside the outer ring's box nothing is covered
  have none : ∀ {a b c d : Rat}, a ≤ c → b < d → (∀ x y : Rat, a < x → x < c → b < y → y < d → offP o hs (x, y) → wn o (x, y) = 0) → pA a b c d o hs ≤ 0 := by
    intro a b c d h1 h2 h3
    have := pA_hi (o := o) (hs := hs) (k := 0) h1 h2 (fun x y a1 a2 a3 a4 ho => by
      have hz := h3 x y a1 a2 a3 a4 ho
      have : ∀ h ∈ hs, wn h (x, y) = 0 := fun h hh => by
        rcases (P.sh h hh).wn01 (P.ah h hh) (ho.2 h hh) with e | e
        · exact e
        · have := P.hole_in ho hh (by omega); omega
      rw [wnP_zero this, hz]; exact Rat.le_refl)
    grind
  have up : ∀ {u v p : P2}, u.2 < p.2 → v.2 < p.2 → crI u v p = 0 := fun h1 h2 => by
    unfold crI; rw [if_neg (by grind), if_neg (by grind)]
  have dn : ∀ {u v p : P2}, p.2 < u.2 → p.2 < v.2 → crI u v p = 0 := fun h1 h2 => by
    unfold crI; rw [if_neg (by grind), if_neg (by grind)]
  have left : ∀ {l : List P2} {x y : Rat}, (∀ p ∈ l, x < p.1) → wn l (x, y) = 0 := by
    intro l x y hl
    have hsum := Tt_en y (cyc l) (cyc_clo l)
    have hw := Wt_en x y (cyc l)
    -- all the places are to the right
    have : ∀ e ∈ cyc l, (crI e.1 e.2 (x, y) : Rat) = sgnR e.1 e.2 y := fun e he => by
      have m1 := hl _ (edge_pts he).1
      have m2 := hl _ (edge_pts he).2
      rw [crI_sgn]
      by_cases h0 : sgnR e.1 e.2 y = 0
      · rw [h0]; split <;> rfl
      · have hc : (e.1.2 ≤ y ∧ y < e.2.2) ∨ (e.2.2 ≤ y ∧ y < e.1.2) := by
          unfold sgnR at h0
          by_cases a : e.1.2 ≤ y ∧ y < e.2.2
          · exact .inl a
          · rw [if_neg a] at h0
            by_cases b : e.2.2 ≤ y ∧ y < e.1.2
            · exact .inr b
            · rw [if_neg b] at h0; exact absurd rfl h0
        have hn : e.1.2 ≠ e.2.2 := by grind
        have hk : ∀ u v : P2, x < u.1 → x < v.1 → u.2 ≤ y → y < v.2 → x < xat u v y := fun u v k1 k2 k3 k4 => by
          have hd : 0 < v.2 - u.2 := by grind
          obtain ⟨t0, t1⟩ := div_unit (x := y - u.2) (y := v.2 - u.2) (by grind) (by grind) hd
          unfold xat
          generalize (y - u.2) / (v.2 - u.2) = t at *
          by_cases ht : t = 0
          · subst ht; grind
          · have n1 := Rat.mul_pos (show 0 < t by grind) (show 0 < v.1 - x by grind)
            have n2 := Rat.mul_nonneg (show 0 ≤ 1 - t by grind) (show 0 ≤ u.1 - x by grind)
            grind
        have : x < xat e.1 e.2 y := by
          rcases hc with hc | hc
          · exact hk _ _ m1 m2 hc.1 hc.2
          · rw [← xat_swap hn]; exact hk _ _ m2 m1 hc.1 hc.2
        rw [if_pos this]
    have key : ∀ E : List (P2 × P2), (∀ e ∈ E, (crI e.1 e.2 (x, y) : Rat) = sgnR e.1 e.2 y) → ((sumZ (fun u v => crI u v (x, y)) E : Int) : Rat) = Tt (enL E y) := by
      intro E
      induction E with
      | nil => intro _; rfl
      | cons e E ih =>
        intro h
        simp only [sumZ, enL, List.map_cons, Tt, Rat.intCast_add]
        rw [h e (by simp), ih (fun e he => h e (by simp [he]))]; rfl
    have e1 := key _ this
    rw [hsum] at e1
    exact Rat.intCast_inj.1 e1
  have n1 := none (a := X0) (b := Y0) (c := x0) (d := Y1) (by grind) (by grind) (fun x y _ h _ _ _ => left fun p hp => by have := hin p hp; grind)
  have n2 := none (a := x1) (b := Y0) (c := X1) (d := Y1) (by grind) (by grind) (fun x y h _ _ _ _ => wn_right fun p hp => by have := hin p hp; simp only; grind)
  have n3 := none (a := x0) (b := Y0) (c := x1) (d := y0) (by grind) (by grind) (fun x y _ _ _ h _ => sumZ_zero _ fun e he => dn (by have := hin _ (edge_pts he).1; simp only; grind) (by have := hin _ (edge_pts he).2; simp only; grind))
  have n4 := none (a := x0) (b := y1) (c := x1) (d := Y1) (by grind) (by grind) (fun x y _ _ h _ _ => sumZ_zero _ fun e he => up (by have := hin _ (edge_pts he).1; simp only; grind) (by have := hin _ (edge_pts he).2; simp only; grind))
  grind
end Nw
end
