import Derived.Test.YtdjbkccoofcnjaaGreatNvD11
import Derived.Test.YtdjbkccoofcnjaaGreatNvD5
import Derived.Test.YtdjbkccoofcnjaaGreatNvD10
set_option linter.all false
set_option linter.unusedVariables false
set_option linter.unusedSimpArgs false
section
namespace Go.Nv
open Go.Proofs Nw
set_option maxRecDepth 100000
set_option linter.unusedVariables false
set_option linter.unusedSimpArgs false
theorem odX_fold (q : P2) : ∀ (hs : List (List P2)) (o : List P2) (z : Bool), z = decide (wn o q % 2 ≠ 0) → hs.foldl (fun z l => z != odB l q) z = decide (wnP o hs q % 2 ≠ 0) := by
  have key : ∀ (hs : List (List P2)) (o : List P2) (z : Bool) (c : Int), z = decide (c % 2 ≠ 0) → hs.foldl (fun z l => z != odB l q) z = decide ((c + (wnP o hs q - wn o q)) % 2 ≠ 0) := by
    intro hs
    induction hs with
    | nil =>
      intro o z c h
      have e0 : wnP o [] q = wn o q := rfl
      rw [List.foldl_nil, h, decide_eq_decide, e0]
      omega
    | cons l hs ih =>
      intro o z c h
      rw [List.foldl_cons, ih o _ (c - wn l q) ?_]
      · rw [decide_eq_decide]
        simp only [wnP]
        omega
      · rw [h, odB_wn, Bool.eq_iff_iff]
        simp only [bne_iff_ne, ne_eq, decide_eq_true_iff, decide_eq_decide]
        omega
  intro hs o z h
  rw [key hs o z (wn o q) h, decide_eq_decide]
  omega
theorem odX_wn (o : List P2) (hs : List (List P2)) (q : P2) : odX (o :: hs) q = decide (wnP o hs q % 2 ≠ 0) := by
  unfold odX
  rw [List.foldl_cons]
  refine odX_fold q hs o _ ?_
  rw [odB_wn, Bool.false_bne]
theorem side_odd {o : List P2} {hs : List (List P2)} (P : Plg o hs) (ho : RgOk o) (hr : ∀ h ∈ hs, RgOk h) (q : P2) : whV o hs q = 0 ∨ odX (o :: hs) q = decide (whV o hs q = 1) := by
  rcases whV_cases P ho hr q with e | ⟨e, h1, h2⟩ | ⟨e, h1⟩
  · exact .inl e
  · right
    rw [odX_wn, wnP_zero h2, h1, e]; rfl
  · right
    have := (whV_out P ho hr (q := q) (by omega)).2
    rw [odX_wn, this, e]; rfl
def pw (f : P2 → Bool) (e : P2 × P2) : Bool := f e.1 != f e.2
theorem prs_par (f : P2 → Bool) (a : P2) : ∀ (l : List P2) (d : P2), ((prs d (l ++ [a])).countP (pw f)) % 2 = if (f d != f a) = true then 1 else 0
  | [], d => by
    simp only [List.nil_append, prs, List.countP_cons, List.countP_nil]
    unfold pw
    split <;> rfl
  | b :: l, d => by
    have ih := prs_par f a l b
    simp only [List.cons_append, prs, List.countP_cons]
    unfold pw at ih ⊢
    simp only at ih ⊢
    revert ih
    cases f d <;> cases f a <;> cases f b <;> simp <;> omega
theorem cyc_even (f : P2 → Bool) (l : List P2) : ((cyc l).countP (pw f)) % 2 = 0 := by
  cases l with
  | nil => rfl
  | cons a l =>
    have := prs_par f a l a
    rw [if_neg (by simp)] at this
    exact this
theorem edges_even (f : P2 → Bool) (o : List P2) : ∀ hs : List (List P2), ((cyc o ++ hs.flatMap cyc).countP (pw f)) % 2 = 0 := by
  have key : ∀ hs : List (List P2), ((hs.flatMap cyc).countP (pw f)) % 2 = 0 := by
    intro hs
    induction hs with
    | nil => rfl
    | cons h hs ih =>
      rw [List.flatMap_cons, List.countP_append]
      have := cyc_even f h
      omega
  intro hs
  rw [List.countP_append]
  have := cyc_even f o
  have := key hs
  omega
theorem crL_even (y : Rat) (o : List P2) (hs : List (List P2)) : (crL y (cyc o ++ hs.flatMap cyc)).length % 2 = 0 := by
  unfold crL
  rw [List.length_map, ← List.countP_eq_length_filter]
  exact edges_even (fun p => decide (y < p.2)) o hs
theorem odE_crx (x y : Rat) (e : P2 × P2) : odE (x, y) e = (crs y e && decide (x < crx y e)) := by
  obtain ⟨a, b⟩ := e
  have hab : ∀ q : P2, abB (x, y) q = decide (y < q.2) := fun q => by
    unfold abB
    rw [decide_eq_decide]
    exact cmpI_pos
  have hor : ∀ u v : P2, decide (0 < orI u v (x, y)) = decide (0 < orQ u v (x, y)) := fun u v => by
    unfold orI
    rw [decide_eq_decide]
    exact sgnI_pos
  unfold odE swE crs crx
  simp only [hab, hor]
  by_cases ha : y < a.2 <;> by_cases hb : y < b.2
  · simp [ha, hb]
  · simp only [ha, hb, decide_true, decide_false, if_true, Bool.not_false, Bool.true_and]
    have hd : 0 < (a.2 - y) - (b.2 - y) := by grind
    have ht : (a.2 - y) / ((a.2 - y) - (b.2 - y)) * ((a.2 - y) - (b.2 - y)) = a.2 - y := Rat.div_mul_cancel (by grind)
    generalize (a.2 - y) / ((a.2 - y) - (b.2 - y)) = t at ht ⊢
    rw [show (true != false) = true from rfl, Bool.true_and, decide_eq_decide]
    have e1 : orQ b a (x, y) = ((a.2 - y) - (b.2 - y)) * (a.1 + (b.1 - a.1) * t - x) := by simp only [orQ]; grind
    rw [e1, mul_pos_iff' hd]
    constructor <;> intro h <;> grind
  · simp only [ha, hb, decide_true, decide_false, Bool.not_false, Bool.true_and]
    have hd : 0 < (b.2 - y) - (a.2 - y) := by grind
    have ht : (a.2 - y) / ((a.2 - y) - (b.2 - y)) * ((a.2 - y) - (b.2 - y)) = a.2 - y := Rat.div_mul_cancel (by grind)
    generalize (a.2 - y) / ((a.2 - y) - (b.2 - y)) = t at ht ⊢
    have e1 : orQ a b (x, y) = ((b.2 - y) - (a.2 - y)) * (a.1 + (b.1 - a.1) * t - x) := by simp only [orQ]; grind
    have e2 : decide (0 < orQ a b (x, y)) = decide (x < a.1 + (b.1 - a.1) * t) := by
      rw [e1, decide_eq_decide, mul_pos_iff' hd]
      constructor <;> intro h <;> grind
    simp [hb, ha, e2]
  · simp [ha, hb]
theorem fold_par (q : P2) : ∀ (E : List (P2 × P2)) (z : Bool), E.foldl (odF q) z = (z != decide (E.countP (odE q) % 2 = 1))
  | [], z => by simp
  | e :: E, z => by
    rw [List.foldl_cons, fold_par q E, List.countP_cons]
    unfold odF
    generalize E.countP (odE q) = u
    generalize odE q e = w
    rw [Bool.eq_iff_iff]
    cases w <;> cases z <;> simp <;> omega
theorem odB_par (l : List P2) (q : P2) : odB l q = decide ((cyc l).countP (odE q) % 2 = 1) := by
  unfold odB
  rw [fold_par, Bool.false_bne]
theorem odX_par (q : P2) : ∀ (hs : List (List P2)) (z : Bool), hs.foldl (fun z l => z != odB l q) z = (z != decide ((hs.flatMap cyc).countP (odE q) % 2 = 1))
  | [], z => by simp
  | h :: hs, z => by
    rw [List.foldl_cons, odX_par q hs, List.flatMap_cons, List.countP_append, odB_par]
    generalize (cyc h).countP (odE q) = u
    generalize (hs.flatMap cyc).countP (odE q) = v
    rw [Bool.eq_iff_iff]
    cases z <;> simp <;> omega
theorem crL_right (x y : Rat) (E : List (P2 × P2)) : (crL y E).countP (fun u => decide (x < u)) = E.countP (odE (x, y)) := by
  unfold crL
  rw [List.countP_map, List.countP_filter]
  refine List.countP_congr fun e _ => ?_
  rw [odE_crx]
  simp only [Function.comp, Bool.and_comm]
theorem odX_right (x y : Rat) (o : List P2) (hs : List (List P2)) : odX (o :: hs) (x, y) = decide ((crL y (cyc o ++ hs.flatMap cyc)).countP (fun u => decide (x < u)) % 2 = 1) := by
  unfold odX
  rw [odX_par, Bool.false_bne, crL_right, List.flatMap_cons]
theorem prL_cons (a b : Rat) (t : List Rat) (M : Nat) : prL (a :: b :: t) (M + 1) = (if a = b then [] else [(a, b)]) ++ prL t M := by
  unfold prL
  rw [List.range_succ_eq_map, List.map_cons, List.map_map]
  have e : ((fun j => ((a :: b :: t).getD (2 * j) 0, (a :: b :: t).getD (2 * j + 1) 0)) ∘ Nat.succ) = fun j => (t.getD (2 * j) 0, t.getD (2 * j + 1) 0) := by
    funext j
    simp only [Function.comp, Nat.succ_eq_add_one]
    rw [show 2 * (j + 1) = 2 * j + 1 + 1 by omega]
    rfl
  rw [e]
  have e0 : ((a :: b :: t).getD (2 * 0) 0, (a :: b :: t).getD (2 * 0 + 1) 0) = (a, b) := rfl
  rw [e0]
  by_cases h : a = b
  · rw [if_pos h, List.filter_cons_of_neg (by simpa using h), List.nil_append]
  · rw [if_neg h, List.filter_cons_of_pos (by simpa using h)]
    rfl
theorem prL_has (x : Rat) : ∀ (M : Nat) (ys : List Rat), ys.length = 2 * M → ys.Pairwise (· ≤ ·) → hasB (prL ys M) x = decide (ys.countP (fun u => decide (x < u)) % 2 = 1)
  | 0, ys, h, _ => by
    have : ys = [] := List.eq_nil_of_length_eq_zero (by omega)
    subst this
    rfl
  | M + 1, a :: b :: t, h, hp => by
    have h1 := List.pairwise_cons.1 hp
    have h2 := List.pairwise_cons.1 h1.2
    have ih := prL_has x M t (by simp at h; omega) h2.2
    have hab := h1.1 b (by simp)
    rw [prL_cons]
    unfold hasB at ih ⊢
    rw [List.any_append, ih, List.countP_cons, List.countP_cons]
    by_cases c1 : x < b
    · have hall : t.countP (fun u => decide (x < u)) = t.length := List.countP_eq_length.2 fun u hu => by
        have := h2.1 u hu
        rw [decide_eq_true_iff]; grind
      have hl : t.length = 2 * M := by simp at h; omega
      rw [hall, hl]
      by_cases c2 : x < a
      · rw [show (if decide (x < b) = true then 1 else 0) = 1 from if_pos (decide_eq_true c1), show (if decide (x < a) = true then 1 else 0) = 1 from if_pos (decide_eq_true c2)]
        have e0 : (if a = b then [] else [(a, b)]).any (fun p => decide (p.1 ≤ x ∧ x < p.2)) = false := by
          split
          · rfl
          · simp only [List.any_cons, List.any_nil, Bool.or_false, decide_eq_false_iff_not]
            grind
        rw [e0, Bool.false_or, decide_eq_decide]
        omega
      · rw [show (if decide (x < b) = true then 1 else 0) = 1 from if_pos (decide_eq_true c1), show (if decide (x < a) = true then 1 else 0) = 0 from if_neg (by simpa using c2)]
        have e0 : (if a = b then [] else [(a, b)]).any (fun p => decide (p.1 ≤ x ∧ x < p.2)) = true := by
          rw [if_neg (by grind)]
          simp only [List.any_cons, List.any_nil, Bool.or_false, decide_eq_true_iff]
          grind
        rw [e0, Bool.true_or]
        symm
        rw [decide_eq_true_iff]
        omega
    · rw [show (if decide (x < b) = true then 1 else 0) = 0 from if_neg (by simpa using c1), show (if decide (x < a) = true then 1 else 0) = 0 from if_neg (by simp; grind)]
      have e0 : (if a = b then [] else [(a, b)]).any (fun p => decide (p.1 ≤ x ∧ x < p.2)) = false := by
        split
        · rfl
        · simp only [List.any_cons, List.any_nil, Bool.or_false, decide_eq_false_iff_not]
          grind
      rw [e0, Bool.false_or]
      rfl
  | M + 1, [a], h, _ => by simp at h; omega
  | M + 1, [], h, _ => by simp at h
structure SpW (l : List P2) : Prop where
  a : ∀ p ∈ l, p.1 < p.2
  b : l.Pairwise fun p q => p.2 < q.1
theorem SpW.ok {l : List P2} (h : SpW l) : SpOk l := fun i hi => ⟨h.a _ (List.getElem_mem hi), fun h' => List.pairwise_iff_getElem.1 h.b i (i + 1) hi h' (by omega)⟩
theorem nmS_nil (p : P2) : nmS [] p = [p] := by
  unfold nmS; rw [dif_neg (by simp)]; rfl
theorem nmS_snoc (i : List P2) (q p : P2) : nmS (i ++ [q]) p = if q.2 < p.1 then i ++ [q] ++ [p] else if q.2 < p.2 then i ++ [(q.1, p.2)] else i ++ [q] := by
  have hl : (i ++ [q]).length = i.length + 1 := by simp
  have hg : ∀ h, (i ++ [q])[(i ++ [q]).length - 1]'h = q := fun h => by
    rw [List.getElem_append_right (by omega)]
    simp
  unfold nmS
  rw [dif_pos (by omega)]
  simp only [hg]
  split
  · rfl
  · split
    · rw [hl, Nat.add_sub_cancel, List.set_append_right _ _ (Nat.le_refl _)]
      simp
    · rfl
theorem nm_step {acc : List P2} {p : P2} (h : SpW acc) (hp : p.1 < p.2) (hl : ∀ q ∈ acc.getLast?, q.1 ≤ p.1) : SpW (nmS acc p) ∧ (∀ q ∈ (nmS acc p).getLast?, q.1 ≤ p.1) ∧ ∀ x, hasB (nmS acc p) x = (hasB acc x || decide (p.1 ≤ x ∧ x < p.2)) := by
  rcases List.eq_nil_or_concat acc with rfl | ⟨i, q, rfl⟩
  · rw [nmS_nil]
    refine ⟨⟨by simpa using hp, by simp⟩, ?_, fun x => by simp [hasB]⟩
    simp
  · rw [List.concat_eq_append] at h hl ⊢
    have hq : q.1 ≤ p.1 := hl q (by simp)
    have hqq := h.a q (by simp)
    have hb := List.pairwise_append.1 h.b
    have hiq : ∀ a ∈ i, a.2 < q.1 := fun a ha => hb.2.2 a ha q (by simp)
    rw [nmS_snoc]
    split
    · rename_i c1
      refine ⟨⟨fun a ha => ?_, ?_⟩, by simp, fun x => by simp [hasB, Bool.or_assoc]⟩
      · rcases List.mem_append.1 ha with ha | ha
        · exact h.a a ha
        · rw [List.mem_singleton.1 ha]; exact hp
      · refine List.pairwise_append.2 ⟨h.b, by simp, fun a ha b hb' => ?_⟩
        rw [List.mem_singleton.1 hb']
        rcases List.mem_append.1 ha with ha | ha
        · have := hiq a ha; grind
        · rw [List.mem_singleton.1 ha]; exact c1
    · rename_i c1
      split
      · rename_i c2
        refine ⟨⟨fun a ha => ?_, ?_⟩, by simp; exact hq, fun x => ?_⟩
        · rcases List.mem_append.1 ha with ha | ha
          · exact h.a a (by simp [ha])
          · rw [List.mem_singleton.1 ha]; simp only; grind
        · refine List.pairwise_append.2 ⟨hb.1, by simp, fun a ha b hb' => ?_⟩
          rw [List.mem_singleton.1 hb']
          exact hiq a ha
        · unfold hasB
          rw [List.any_append, List.any_append, Bool.or_assoc]
          congr 1
          simp only [List.any_cons, List.any_nil, Bool.or_false]
          rw [Bool.eq_iff_iff]
          simp only [Bool.or_eq_true, decide_eq_true_iff]
          constructor
          · intro ⟨h1, h2⟩
            by_cases c3 : x < q.2
            · exact .inl ⟨h1, c3⟩
            · exact .inr ⟨by grind, h2⟩
          · rintro (⟨h1, h2⟩ | ⟨h1, h2⟩)
            · exact ⟨h1, by grind⟩
            · exact ⟨by grind, h2⟩
      · rename_i c2
        refine ⟨h, by simp; exact hq, fun x => ?_⟩
        unfold hasB
        rw [List.any_append, Bool.or_assoc]
        congr 1
        simp only [List.any_cons, List.any_nil, Bool.or_false]
        rw [Bool.eq_iff_iff]
        simp only [Bool.or_eq_true, decide_eq_true_iff]
        constructor
        · intro h1; exact .inl h1
        · rintro (h1 | ⟨h1, h2⟩)
          · exact h1
          · exact ⟨by grind, by grind⟩
theorem nm_fold : ∀ (l acc : List P2), SpW acc → (∀ p ∈ l, p.1 < p.2) → l.Pairwise (fun p q => p.1 ≤ q.1) → (∀ q ∈ acc.getLast?, ∀ p ∈ l, q.1 ≤ p.1) → SpW (l.foldl nmS acc) ∧ ∀ x, hasB (l.foldl nmS acc) x = (hasB acc x || hasB l x)
  | [], acc, h, _, _, _ => ⟨h, fun x => by simp [hasB]⟩
  | p :: l, acc, h, h1, h2, h3 => by
    have h2' := List.pairwise_cons.1 h2
    obtain ⟨s1, s2, s3⟩ := nm_step h (h1 p (by simp)) (fun q hq => h3 q hq p (by simp))
    obtain ⟨r1, r2⟩ := nm_fold l (nmS acc p) s1 (fun q hq => h1 q (by simp [hq])) h2'.2 (fun q hq r hr => by
      have := s2 q hq
      have := h2'.1 r hr
      grind)
    refine ⟨r1, fun x => ?_⟩
    rw [List.foldl_cons, r2, s3]
    simp only [hasB, List.any_cons, Bool.or_assoc]
theorem nmL_all {n : Nat} {l : List P2} (h : Iv n l) (hp : l.Pairwise fun p q => p.1 ≤ q.1) : SpOk (nmL l l.length) ∧ ∀ x, hasB (nmL l l.length) x = hasB l x := by
  have := nm_fold l [] ⟨by simp, by simp⟩ (fun p hp => by obtain ⟨i, hi, rfl⟩ := List.getElem_of_mem hp; exact h.lt i hi) hp (by simp)
  unfold nmL
  rw [List.take_length]
  exact ⟨this.1.ok, fun x => by rw [this.2]; simp [hasB]⟩
end Go.Nv
end
section
namespace Go.Nv
open Go.Proofs Nw
set_option maxRecDepth 100000
set_option linter.unusedVariables false
set_option linter.unusedSimpArgs false
theorem so_ins (a : Rat) : ∀ ys : List Rat, ys.Pairwise (· ≤ ·) → ∃ zs : List Rat, zs.Perm (a :: ys) ∧ zs.Pairwise (· ≤ ·)
  | [], _ => ⟨[a], List.Perm.refl _, by simp⟩
  | b :: t, h => by
    have h' := List.pairwise_cons.1 h
    by_cases c : a ≤ b
    · refine ⟨a :: b :: t, List.Perm.refl _, List.pairwise_cons.2 ⟨fun z hz => ?_, h⟩⟩
      rcases List.mem_cons.1 hz with rfl | hz
      · exact c
      · exact Rat.le_trans c (h'.1 z hz)
    · obtain ⟨zs, h1, h2⟩ := so_ins a t h'.2
      refine ⟨b :: zs, (List.Perm.cons b h1).trans (List.Perm.swap a b t), List.pairwise_cons.2 ⟨fun z hz => ?_, h2⟩⟩
      rcases List.mem_cons.1 (h1.mem_iff.1 hz) with rfl | hz
      · grind
      · exact h'.1 z hz
theorem so_ex : ∀ l : List Rat, ∃ ys : List Rat, ys.Perm l ∧ ys.Pairwise (· ≤ ·)
  | [] => ⟨[], List.Perm.refl _, List.Pairwise.nil⟩
  | a :: l => by
    obtain ⟨ys, h1, h2⟩ := so_ex l
    obtain ⟨zs, h3, h4⟩ := so_ins a ys h2
    exact ⟨zs, h3.trans (List.Perm.cons a h1), h4⟩
theorem ed_len (o : List P2) (hs : List (List P2)) : (cyc o ++ hs.flatMap cyc).length = o.length + (hs.map List.length).sum := by
  rw [List.length_append, cyc_len]
  congr 1
  induction hs with
  | nil => rfl
  | cons h hs ih => rw [List.flatMap_cons, List.length_append, cyc_len, ih, List.map_cons, List.sum_cons]
theorem g22_pt {o : List (RD × RD)} {hs : List (List (RD × RD))} (h : g22 o hs = false) (ho : o.length ≤ 64) (hh : hs.length ≤ 8) : nPt o hs ≤ 12 := by
  unfold g22 at h
  rw [Bool.or_eq_false_iff, decide_eq_false_iff_not] at h
  refine Classical.byContradiction fun hn => h.2 ⟨by omega, ho, hh⟩
theorem law10 (hA : Fun Tryz.prog 12 [] [.v (.bool true)]) (o : List (RD × RD)) (hs : List (List (RD × RD))) (p q : RD) : Fun Tryz.prog 10 [pgR o hs, ptR p q] [.v (.bool true)] := by
  cases hg : g22 o hs with
  | true => exact law10a hA o hs p q hg
  | false =>
    cases h2 : gtP (p, q) with
    | true => exact law10e hA o hs p q hg h2
    | false =>
      have h2' := h2
      unfold gtP at h2'
      rw [Bool.or_eq_false_iff] at h2'
      obtain ⟨gp, gq⟩ := h2'
      have hpo := g22_ok hg
      have hck := pcheck_o hpo (show 12 < 1000000 by omega)
      by_cases hbad : pgE o hs ≠ 0 ∨ okP p q ≠ 0
      · exact law10f hA o hs p q hg h2 (gtR_sz gp) (gtR_sz gq) hck hbad
      have hp : pgE o hs = 0 := Classical.byContradiction fun h => hbad (.inl h)
      have hv : okP p q = 0 := Classical.byContradiction fun h => hbad (.inr h)
      have hvc := vcheck_c p q (gtR_sz gp) (gtR_sz gq)
      rw [hv] at hvc
      rw [okP_zero] at hv
      have bx : Bd 12 p.val := gtR_bd gp
      have bq : Bd 12 q.val := gtR_bd gq
      have evp : ptR p q = ptD p.val q.val := by unfold ptD ptR rneg rnum rden; rw [hv.1, hv.2]
      rw [hp] at hck
      obtain ⟨z1, z2, z3, z4⟩ := pgE_zero hp
      obtain ⟨o1, o2, o3, o4⟩ := rgR_zero z1
      obtain ⟨P, ro, rh⟩ := pgE_plg hp
      have epg : pgR o hs = .a [.l (pL (o.map vP)), .l (hQ (hs.map (List.map vP)))] := by
        unfold pgR; rw [rL_can o1, hR_can (fun l hl => (rgR_zero (z2 l hl)).1)]
      have ob : ∀ p ∈ o.map vP, BP 12 p := fun p hp => by obtain ⟨q, hq, rfl⟩ := List.mem_map.1 hp; exact (hpo.ob q hq).1
      have hb : ∀ x ∈ hs.map (List.map vP), (∀ p ∈ x, BP 12 p) ∧ x.length ≤ 100 := fun x hx => by
        obtain ⟨q, hq, rfl⟩ := List.mem_map.1 hx
        refine ⟨fun p hp => by obtain ⟨r, hr, rfl⟩ := List.mem_map.1 hp; exact (hpo.hb q hq r hr).1, ?_⟩
        have := rgR_zero (z2 q hq)
        rw [List.length_map]; omega
      have ol : (o.map vP).length ≤ 100 := by rw [List.length_map]; omega
      have hhl : (hs.map (List.map vP)).length ≤ 8 := by rw [List.length_map]; exact z3
      have hpt := g22_pt hg o4 z3
      have hgc := great22_c o hs
      rw [hg] at hgc
      have h7 := great7 [(p, q)] (by simp)
      rw [show [(p, q)].any gtP = false by simp [h2], show ([(p, q)] : List (RD × RD)).map (fun p => ptR p.1 p.2) = [ptR p q] from rfl] at h7
      rw [epg] at hck hgc
      rw [evp] at hvc h7
      rw [epg, evp]
      have hE : (cyc (o.map vP) ++ (hs.map (List.map vP)).flatMap cyc).length ≤ 12 := by
        rw [ed_len, List.length_map, List.map_map]
        have e : (hs.map (List.length ∘ List.map vP)) = hs.map List.length := List.map_congr_left fun h _ => by simp
        rw [e]
        exact hpt
      generalize o.map vP = O at *
      generalize hs.map (List.map vP) = Hs at *
      generalize p.val = x at *
      generalize q.val = y at *
      have hev := crL_even y O Hs
      obtain ⟨M, hM⟩ : ∃ M, (crL y (cyc O ++ Hs.flatMap cyc)).length = 2 * M := ⟨(crL y (cyc O ++ Hs.flatMap cyc)).length / 2, by omega⟩
      obtain ⟨ys, hpp, hss⟩ := so_ex (crL y (cyc O ++ Hs.flatMap cyc))
      have k1 := lines_c ob ol hb (by omega) bq hhl hck rfl hE hM hpp hss
      have hyl : ys.length = 2 * M := by rw [← hM]; exact hpp.length_eq
      have hMl : M ≤ 6 := by have := crL_len y (cyc O ++ Hs.flatMap cyc); omega
      have hbx : ∀ u ∈ ys, Bd 130 u := by
        intro u hu
        have hu := hpp.mem_iff.1 hu
        unfold crL at hu
        obtain ⟨e, he, rfl⟩ := List.mem_map.1 hu
        have he := (List.mem_filter.1 he).1
        have hbe : BP 12 e.1 ∧ BP 12 e.2 := by
          rcases List.mem_append.1 he with h | h
          · exact ⟨ob _ (cyc_mem h).1, ob _ (cyc_mem h).2⟩
          · obtain ⟨l, h1, h2⟩ := List.mem_flatMap.1 h
            exact ⟨(hb l h1).1 _ (cyc_mem h2).1, (hb l h1).1 _ (cyc_mem h2).2⟩
        have d1 := hbe.1.2.sub bq
        have d2 := hbe.2.2.sub bq
        exact (hbe.1.1.add ((hbe.2.1.sub hbe.1.1).mul (d1.div (d1.sub d2)))).mono (by omega)
      have hiv : Iv 130 (prL ys M) := prL_iv hyl hMl (fun i j hi hj hij _ => List.pairwise_iff_getElem.1 hss i j hi hj hij) hbx (by omega)
      have hpw : (prL ys M).Pairwise fun p q => p.1 ≤ q.1 := by
        rw [List.pairwise_iff_getElem]
        intro i j hi hj hij
        have key : ∀ j, ∀ hj : j < (prL ys M).length, ∀ hij : i < j, ((prL ys M)[i]'(by omega)).1 ≤ (prL ys M)[j].1 := by
          intro j
          induction j with
          | zero => intro _ h; omega
          | succ j ih =>
            intro hj hij
            by_cases c : i = j
            · subst c; exact hiv.so i hj
            · exact Rat.le_trans (ih (by omega) (by omega)) (hiv.so j hj)
        exact key j hj hij
      obtain ⟨sok, hhas⟩ := nmL_all hiv hpw
      have hnb := nmL_bp hiv.b (prL ys M).length (Nat.le_refl _)
      have hnl := nmL_len (l := prL ys M) (prL ys M).length (Nat.le_refl _)
      have hlen := hiv.len
      have k2 := Has_c (x := x) hnb sok (.mk bx (by omega)) (by omega) (by omega)
      have k3 := pinside_c (q := (x, y)) hck ob ol hb ⟨bx, bq⟩ (by omega) hhl
      have k5 := spcheck_c hnb sok (by omega) (by omega)
      have e1 : hasB (nmL (prL ys M) (prL ys M).length) x = odX (O :: Hs) (x, y) := by
        rw [hhas, prL_has x M ys hyl hss, odX_right, hpp.countP_eq]
      exact law10b hA ob ol hb bx bq (by omega) hhl hgc h7 hck hvc k1 k2 k3 k5 e1 (by
        rw [e1]
        exact side_odd P ro rh (x, y))
end Go.Nv
end
