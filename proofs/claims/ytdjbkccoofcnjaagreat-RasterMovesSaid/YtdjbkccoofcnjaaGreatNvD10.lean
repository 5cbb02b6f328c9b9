import Derived.Test.YtdjbkccoofcnjaaGreatNvD9
set_option linter.all false
set_option linter.unusedVariables false
set_option linter.unusedSimpArgs false
section
namespace Go.Nv
open Go.Proofs Nw
set_option maxRecDepth 100000
set_option linter.unusedVariables false
set_option linter.unusedSimpArgs false
theorem hoL_ord {o : List P2} : ∀ (hs : List (List (RD × RD))) (pre : List (List P2)), hoL o pre hs = 0 → ∀ i, pre.length ≤ i + 1 → 0 < i + 1 → i + 1 < (pre ++ hs.map (List.map vP)).length →
    cmP (ix ((pre ++ hs.map (List.map vP)).getD i []) 0) (ix ((pre ++ hs.map (List.map vP)).getD (i + 1) []) 0) < 0
  | [], pre, _, i, h1, _, h2 => by simp at h2; omega
  | h :: hs, pre, e, i, h1, h0, h2 => by
    rw [hoL] at e
    split at e
    · rename_i h1; exact absurd e h1
    rename_i a1
    split at e
    · rename_i h2; exact absurd e h2
    rename_i a2
    have a2 : hoE o pre (h.map vP) = 0 := Classical.not_not.1 a2
    have eL : pre ++ (h :: hs).map (List.map vP) = (pre ++ [h.map vP]) ++ hs.map (List.map vP) := by simp
    rw [eL] at h2 ⊢
    by_cases hi : i + 1 = pre.length
    · unfold hoE at a2
      split at a2
      · exact absurd a2 (by decide)
      split at a2
      · exact absurd a2 (by decide)
      split at a2
      · exact absurd a2 (by decide)
      split at a2
      · exact absurd a2 (by decide)
      rename_i c4
      have e1 : ((pre ++ [h.map vP]) ++ hs.map (List.map vP)).getD (i + 1) [] = h.map vP := by
        rw [hi, List.append_assoc, List.getD_eq_getElem?_getD, List.getElem?_append_right (by omega)]; simp
      have e2 : ((pre ++ [h.map vP]) ++ hs.map (List.map vP)).getD i [] = pre.getD (pre.length - 1) [] := by
        rw [List.append_assoc, List.getD_eq_getElem?_getD, List.getD_eq_getElem?_getD, List.getElem?_append_left (by omega), show i = pre.length - 1 by omega]
      rw [e1, e2]
      refine Classical.byContradiction fun hn => c4 ⟨by omega, by omega⟩
    · exact hoL_ord hs (pre ++ [h.map vP]) e i (by simp; omega) h0 h2
theorem Ord.tr {hs : List (List P2)} (h : Ord hs) (hr : ∀ x ∈ hs, RgOk x) (v : P2) : Ord (trH v hs) := by
  intro i hi
  have hl : (trH v hs).length = hs.length := List.length_map ..
  rw [hl] at hi
  have h1 := h i hi
  have g : ∀ j, j < hs.length → (trH v hs).getD j [] = trL v (hs.getD j []) := fun j hj => by
    rw [List.getD_eq_getElem?_getD, List.getD_eq_getElem?_getD]
    unfold trH
    rw [List.getElem?_map, List.getElem?_eq_getElem hj]; rfl
  have p : ∀ j, j < hs.length → 0 < (hs.getD j []).length := fun j hj => by
    rw [List.getD_eq_getElem?_getD, List.getElem?_eq_getElem hj]
    have := (hr _ (List.getElem_mem hj)).len
    simp only [Option.getD_some]; omega
  rw [g i (by omega), g (i + 1) hi, tr_ix (p i (by omega)), tr_ix (p (i + 1) hi), tr_cmP]
  exact h1
theorem trP_bp {v p : P2} {n m : Nat} (hp : BP n p) (hv : BP m v) : BP (n + m + 1) (trP v p) := ⟨hp.1.add hv.1, hp.2.add hv.2⟩
theorem trL_bp {v : P2} {l : List P2} {n m : Nat} (hl : ∀ p ∈ l, BP n p) (hv : BP m v) : ∀ p ∈ trL v l, BP (n + m + 1) p := fun p hp => by
  obtain ⟨q, hq, rfl⟩ := List.mem_map.1 hp
  exact trP_bp (hl q hq) hv
theorem rL_map_cP (l : List P2) : rL (l.map cP) = pL l := rL_cP l
theorem hR_map_cP (hs : List (List P2)) : hR (hs.map (List.map cP)) = hQ hs := by
  unfold hR hQ
  rw [List.map_map]
  exact List.map_congr_left fun h _ => by simp only [Function.comp]; rw [rL_map_cP]
theorem law9 (hA : Fun Tryz.prog 12 [] [.v (.bool true)]) (o : List (RD × RD)) (hs : List (List (RD × RD))) (a b c d p q : RD) (m k : Int) : Fun Tryz.prog 9 [pgR o hs, quR a b c d, i64 m, i64 k, ptR p q] [.v (.bool true)] := by
  cases hg : (g22 o hs || gtT [(a, b), (c, d), (p, q)] m k) with
  | true => exact law9a hA o hs a b c d p q m k hg
  | false =>
    have hg' := hg
    rw [Bool.or_eq_false_iff] at hg'
    have hpo := g22_ok hg'.1
    have hgt := hg'.2
    unfold gtT at hgt
    simp only [List.any_cons, List.any_nil, gtP, Bool.or_false, Bool.or_eq_false_iff, decide_eq_false_iff_not] at hgt
    obtain ⟨⟨⟨ga, gb⟩, ⟨gc, gd⟩, gp, gq⟩, gn⟩ := hgt
    obtain ⟨xs, f, h1, hf⟩ := cover_any hpo ga gb gc gd m k
    have hck := pcheck_o hpo (show 12 < 1000000 by omega)
    by_cases hbad : pgE o hs ≠ 0 ∨ okP p q ≠ 0
    · exact law9e hA o hs a b c d p q m k hg h1 (move_x (gtR_sz gp) (gtR_sz gq) hck hbad) (.inr (by decide))
    have hp : pgE o hs = 0 := Classical.byContradiction fun h => hbad (.inl h)
    have hv : okP p q = 0 := Classical.byContradiction fun h => hbad (.inr h)
    rw [okP_zero] at hv
    have bv : BP 12 (p.val, q.val) := ⟨gtR_bd gp, gtR_bd gq⟩
    have evp : ptR p q = ptD p.val q.val := by unfold ptD ptR rneg rnum rden; rw [hv.1, hv.2]
    rw [hp] at hck
    obtain ⟨z1, z2, z3, z4⟩ := pgE_zero hp
    obtain ⟨o1, o2, o3, o4⟩ := rgR_zero z1
    obtain ⟨P, ro, rh⟩ := pgE_plg hp
    have hord : Ord (hs.map (List.map vP)) := fun i hi => hoL_ord hs [] z4 i (by simp) (by omega) (by simpa using hi)
    have hpt := tr_pgE (v := (p.val, q.val)) hp
    have epg : pgR o hs = .a [.l (pL (o.map vP)), .l (hQ (hs.map (List.map vP)))] := by
      unfold pgR; rw [rL_can o1, hR_can (fun l hl => (rgR_zero (z2 l hl)).1)]
    have ob : ∀ p ∈ o.map vP, BP 12 p := fun p hp => by obtain ⟨q, hq, rfl⟩ := List.mem_map.1 hp; exact (hpo.ob q hq).1
    have hb : ∀ x ∈ hs.map (List.map vP), (∀ p ∈ x, BP 12 p) ∧ x.length ≤ 64 := fun x hx => by
      obtain ⟨q, hq, rfl⟩ := List.mem_map.1 hx
      refine ⟨fun p hp => by obtain ⟨r, hr, rfl⟩ := List.mem_map.1 hp; exact (hpo.hb q hq r hr).1, ?_⟩
      have := rgR_zero (z2 q hq)
      rw [List.length_map]; omega
    have ehs : (hs.map fun h => (trL (p.val, q.val) (h.map vP)).map cP) = (trH (p.val, q.val) (hs.map (List.map vP))).map (List.map cP) := by
      unfold trH; rw [List.map_map, List.map_map]; rfl
    rw [ehs] at hpt
    have ol : (o.map vP).length = o.length := List.length_map ..
    have hhl : (hs.map (List.map vP)).length = hs.length := List.length_map ..
    have hgr := greatP_c o hs [(a, b), (c, d), (p, q)] (by simp) m k
    rw [hg] at hgr
    rw [epg] at hck
    -- the moved polygon
    have hpo2 : PgOk ((trL (p.val, q.val) (o.map vP)).map cP) ((trH (p.val, q.val) (hs.map (List.map vP))).map (List.map cP)) 25 := by
      have b1 := trL_bp ob bv
      refine ⟨by rw [List.length_map, trL_len]; omega, by rw [List.length_map]; unfold trH; rw [List.length_map]; omega, fun x hx => ?_, fun h hh x hx => ?_, fun h hh => ?_⟩
      · obtain ⟨y, hy, rfl⟩ := List.mem_map.1 hx
        have := b1 y hy
        exact ⟨by rw [vP_cP]; exact this, this.szp (by omega)⟩
      · obtain ⟨h', hh', rfl⟩ := List.mem_map.1 hh
        obtain ⟨h2, hh2, rfl⟩ := List.mem_map.1 hh'
        obtain ⟨y, hy, rfl⟩ := List.mem_map.1 hx
        have := trL_bp (hb h2 hh2).1 bv y hy
        exact ⟨by rw [vP_cP]; exact this, this.szp (by omega)⟩
      · obtain ⟨h', hh', rfl⟩ := List.mem_map.1 hh
        obtain ⟨h2, hh2, rfl⟩ := List.mem_map.1 hh'
        have := (hb h2 hh2).2
        rw [List.length_map, trL_len]; omega
    have hck2 := pcheck_o hpo2 (show 25 < 1000000 by omega)
    rw [hpt] at hck2
    have epg2 : pgR ((trL (p.val, q.val) (o.map vP)).map cP) ((trH (p.val, q.val) (hs.map (List.map vP))).map (List.map cP)) = .a [.l (pL (trL (p.val, q.val) (o.map vP))), .l (hQ (trH (p.val, q.val) (hs.map (List.map vP))))] := by
      unfold pgR; rw [rL_map_cP, hR_map_cP]
    rw [epg2] at hck2
    have hcan := pcanonical_c (ro.tr (p.val, q.val)) (fun h hh => by obtain ⟨h2, hh2, rfl⟩ := List.mem_map.1 hh; exact (rh h2 hh2).tr _) (trL_bp ob bv)
      (fun h hh => by obtain ⟨h2, hh2, rfl⟩ := List.mem_map.1 hh; exact trL_bp (hb h2 hh2).1 bv) (hord.tr rh (p.val, q.val)) (by unfold trH; rw [List.length_map]; omega) (by omega) hck2
    have hmv := move_c bv (by omega) (mapped_c (n := 12) ro rh ob (fun h hh => (hb h hh).1) bv (by omega) (by omega) hck hcan)
    by_cases hf0 : f = 0
    · obtain ⟨m1, m2, k1, k2, _, hx, hy, e1, e2, e3, e4⟩ := hf hf0
      have eq2 : quR a b c d = quD a.val b.val c.val d.val := by rw [quD_eq, e1, e2, e3, e4]
      have hcv := cover_c hpo (by omega) (gtR_bd ga) (gtR_bd gb) (gtR_bd gc) (gtR_bd gd) hx hy hp (c := m) (r := k) ⟨m1, m2⟩ ⟨k1, k2⟩
      have hcv2 := cover_c hpo2 (by omega) ((gtR_bd ga).add bv.1) ((gtR_bd gb).add bv.2) ((gtR_bd gc).add bv.1) ((gtR_bd gd).add bv.2) (by grind) (by grind) hpt (c := m) (r := k) ⟨m1, m2⟩ ⟨k1, k2⟩
      rw [epg2, vP_map, show (((trH (p.val, q.val) (hs.map (List.map vP))).map (List.map cP)).map (List.map vP)) = trH (p.val, q.val) (hs.map (List.map vP)) by
        rw [List.map_map]
        conv => rhs; rw [← List.map_id (trH (p.val, q.val) (hs.map (List.map vP)))]
        exact List.map_congr_left fun h _ => vP_map h] at hcv2
      have ecv : cvP (a.val + p.val) (b.val + q.val) (c.val + p.val) (d.val + q.val) m k (trL (p.val, q.val) (o.map vP)) (trH (p.val, q.val) (hs.map (List.map vP))) = cvP a.val b.val c.val d.val m k (o.map vP) (hs.map (List.map vP)) :=
        funext fun j => tr_cvP a.val b.val c.val d.val m k (p.val, q.val) (o.map vP) (hs.map (List.map vP)) j
      rw [ecv] at hcv2
      rw [show (([(a, b), (c, d), (p, q)] : List (RD × RD)).map fun p => ptR p.1 p.2) = [ptD a.val b.val, ptD c.val d.val, ptD p.val q.val] by
        simp only [List.map_cons, List.map_nil]; unfold ptD ptR rneg rnum rden; rw [e1, e2, e3, e4, hv.1, hv.2], epg] at hgr
      rw [eq2, evp, epg]
      rw [epg] at hcv
      exact law9b hA ((gtR_bd ga)) (gtR_bd gb) (gtR_bd gc) (gtR_bd gd) bv.1 bv.2 (by omega) (by
        rw [List.length_map, List.length_range]
        have : m.toNat * k.toNat ≤ 128 * 128 := Nat.mul_le_mul (by omega) (by omega)
        omega) hgr hcv hmv hcv2
    · exact law9e hA o hs a b c d p q m k hg h1 (by rw [epg, evp]; exact hmv) (.inl hf0)
end Go.Nv
end
