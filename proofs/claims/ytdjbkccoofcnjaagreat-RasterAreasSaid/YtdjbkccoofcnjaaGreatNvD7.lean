import Derived.Test.YtdjbkccoofcnjaaGreatNvD6
import Derived.Test.YtdjbkccoofcnjaaGreatNvC46
import Derived.Test.YtdjbkccoofcnjaaGreatNvD4
import Derived.Test.YtdjbkccoofcnjaaGreatNvP3
set_option linter.all false
set_option linter.unusedVariables false
set_option linter.unusedSimpArgs false
section
namespace Go.Nv
open Go.Proofs Nw Go.RowKit Go.ChangeAt Go.WideShapes Go.ChangeShapes
set_option maxRecDepth 100000
set_option linter.unusedVariables false
set_option linter.unusedSimpArgs false
section
variable {H : Type} {enc : TypeId × Value → H} {P : Program} {w : World} {base : Nat} {spare : Nat → Bool} {held : Bool} {fuel : Nat} {t : TypeId} {cs : List Value} {x : DataW H × List MemPlace}
structure DenC (W : World) (ds : List D) (us : List Value) : Prop where
  den : ∀ ok : Nat → Prop, (∀ b, ok b) → DenL W ok ds us
  one : ∀ u ∈ us, u.oneCell' = true
theorem DenC.append {W : World} {a b : List D} {us vs : List Value} (h : DenC W a us) (k : DenC W b vs) : DenC W (a ++ b) (us ++ vs) :=
  ⟨fun ok ho => (h.den ok ho).append (k.den ok ho), fun u hu => (List.mem_append.1 hu).elim (h.one u) (k.one u)⟩
theorem choose_list {α : Type} {Q : Nat → α → Prop} : ∀ (n : Nat), (∀ i, i < n → ∃ y, Q i y) → ∃ l : List α, l.length = n ∧ ∀ i (h : i < l.length), Q i l[i]
  | 0, _ => ⟨[], rfl, fun i h => by simp at h⟩
  | n + 1, h => by
    obtain ⟨l, h1, h2⟩ := choose_list n (fun i hi => h i (by omega))
    obtain ⟨y, hy⟩ := h n (by omega)
    refine ⟨l ++ [y], by simp [h1], fun i hi => ?_⟩
    by_cases hl : i < l.length
    · rw [List.getElem_append_left hl]; exact h2 i hl
    · have : i = l.length := by simp at hi; omega
      subst this
      rw [List.getElem_append_right (by omega)]
      simp [h1, hy]
theorem flat_map_den {α : Type} {W : World} (f : α → D) {size : Nat} (hf : ∀ y, (f y).cells.length = size) {b : Nat} : ∀ (l : List (α × List Value)) (off : Nat), (∀ i (h : i < l.length), DenC W (f l[i].1).cells l[i].2 ∧ l[i].2.length = size ∧ ∀ r, r < size → W.cell? ⟨b, off + i * size + r, none⟩ = l[i].2[r]?) →
    DenC W (flat (l.map fun p => f p.1)) (l.flatMap (·.2)) ∧ ∀ (j : Nat) (u : Value), (l.flatMap (·.2))[j]? = some u → W.cell? ⟨b, off + j, none⟩ = some u
  | [], off, _ => ⟨⟨fun ok _ => DenL.nil _ _, fun u hu => by simp at hu⟩, fun j u h => by simp at h⟩
  | p :: l, off, h => by
    obtain ⟨a1, a2, a3⟩ := h 0 (by simp)
    obtain ⟨b1, b2⟩ := flat_map_den f hf (b := b) l (off + size) (fun i hi => by
      have := h (i + 1) (by simpa using hi)
      simp only [List.getElem_cons_succ] at this
      refine ⟨this.1, this.2.1, fun r hr => ?_⟩
      rw [← this.2.2 r hr]
      congr 2
      rw [Nat.add_mul]; omega)
    simp only [List.getElem_cons_zero] at a1 a2 a3
    refine ⟨?_, fun j u hj => ?_⟩
    · simp only [List.map_cons, List.flatMap_cons]
      exact a1.append b1
    · simp only [List.flatMap_cons] at hj
      by_cases hl : j < size
      · rw [List.getElem?_append_left (by omega)] at hj
        have := a3 j hl
        rw [hj] at this
        simpa using this
      · rw [List.getElem?_append_right (by omega)] at hj
        have := b2 _ _ hj
        rw [a2] at this
        rw [← this]
        congr 2
        omega
theorem slice_den {e : TypeId} {size : Nat} (ht : P.underlying t = some (.slice e)) (hc : P.cellsOf e = size) (h0 : 0 < size) {α : Type} (f : α → D) (hf : ∀ y, (f y).cells.length = size)
    (elem : ∀ (n : Nat) (cs : List Value) (x : DataW H × List MemPlace), DataW.trod enc P w base spare held n e cs = some x → ∃ y, DenC w (f y).cells cs)
    (h : DataW.trod enc P w base spare held fuel t cs = some x) : ∃ l : List α, DenC w [.l (l.map f)] cs := by
  have single : ∀ {d : D} {v : Value}, (∀ ok : Nat → Prop, (∀ b, ok b) → Den w ok d v) → v.oneCell' = true → DenC w [d] [v] := fun h1 h2 =>
    ⟨fun ok ho => .cons (h1 ok ho) (.nil _ _), fun u hu => by rw [List.mem_singleton.1 hu]; exact h2⟩
  rcases DataW.trod_slice ht h with ⟨rfl, _⟩ | ⟨a, len, cap, elems, rest, n, rfl, rfl, _, _, hlc, hcap, hel, hget, _, _⟩
  · exact ⟨[], single (fun ok _ => .l0 (by simp) fun _ => rfl) rfl⟩
  · have each : ∀ i, i < len → ∃ p : α × List Value, DenC w (f p.1).cells p.2 ∧ p.2.length = size ∧ ∀ r, r < size → w.cell? ((a.add (i * size)).add r) = p.2[r]? := by
      intro i hi
      have hi' := hget i hi
      rw [List.getElem?_eq_getElem (by omega), Option.bind_eq_some_iff] at hi'
      obtain ⟨us, h1, h2⟩ := hi'
      rw [hc] at h1
      obtain ⟨_, l1, c1⟩ := World.cells?_some h1
      obtain ⟨y, hy⟩ := elem _ _ _ h2
      exact ⟨(y, us), hy, l1, c1⟩
    obtain ⟨l, hl, hq⟩ := choose_list len each
    cases hlen : len with
    | zero =>
      refine ⟨[], single (fun ok _ => .l0 hcap fun e => by cases e) rfl⟩
    | succ k =>
      have hsp : a = ⟨a.block, a.off, none⟩ := by
        obtain ⟨q1, q2, q3⟩ := hq 0 (by omega)
        have := q3 0 h0
        rw [List.getElem?_eq_getElem (by omega)] at this
        simp only [Nat.zero_mul, Addr.add, if_true] at this
        unfold World.cell? at this
        split at this
        · split at this
          · cases this
          · rename_i hs
            obtain ⟨b, o, s⟩ := a
            cases s with
            | none => rfl
            | some s => simp at hs
        · cases this
      have main := flat_map_den f hf (b := a.block) l a.off (fun i hi => by
        obtain ⟨q1, q2, q3⟩ := hq i hi
        refine ⟨q1, q2, fun r hr => ?_⟩
        rw [← q3 r hr]
        congr 1
        rw [hsp]
        unfold Addr.add
        by_cases h1 : i * size = 0
        · rw [if_pos h1, h1]
          by_cases h2 : r = 0
          · rw [if_pos h2, h2]; rfl
          · rw [if_neg h2]; rfl
        · rw [if_neg h1]
          by_cases h2 : r = 0
          · rw [if_pos h2, h2]; rfl
          · rw [if_neg h2])
      refine ⟨l.map (·.1), ?_⟩
      have hxs : (l.map (·.1)).map f = l.map fun p => f p.1 := by rw [List.map_map]; rfl
      rw [hxs]
      have hlm : (l.map fun p => f p.1).length = len := by rw [List.length_map, hl]
      have hdl := main.1.den (fun _ => True) (fun _ => trivial)
      have e1 : Value.slice (some a) (k + 1) cap = .slice (some ⟨a.block, a.off, none⟩) (l.map fun p => f p.1).length cap := by rw [← hsp, hlm, hlen]
      rw [e1]
      refine single (fun ok ho => ?_) rfl
      refine .l (us := l.flatMap (·.2)) ?_ hdl.1 (ho _) main.2 (main.1.den ok ho).2 (fun i u hu => main.1.one u (List.mem_of_getElem? hu)) (by omega) hcap
      intro hnil
      have hz := hq 0 (by omega)
      have : l[0].2 = [] := by
        have h2 : ∀ p ∈ l, p.2 = [] := by simpa using hnil
        exact h2 _ (List.getElem_mem _)
      rw [this] at hz
      have := hz.2.1
      simp at this; omega
end
end Go.Nv
end
section
namespace Go.Nv
open Go.Proofs Nw Go.RowKit Go.ChangeAt Go.WideShapes Go.ChangeShapes
set_option maxRecDepth 100000
set_option linter.unusedVariables false
set_option linter.unusedSimpArgs false
section
variable {H : Type} {enc : TypeId × Value → H} {w : World} {base : Nat} {spare : Nat → Bool} {held : Bool} {fuel : Nat} {cs : List Value} {x : DataW H × List MemPlace}
theorem field_some {t : TypeId} {fs : Array Field} (ht : Tryz.prog.underlying t = some (.struct fs)) (h : DataW.trod enc Tryz.prog w base spare held fuel t cs = some x) :
    cs.length = Tryz.prog.cellsOf t ∧ ∀ (i : Nat) (f : Field), fs[i]? = some f → ∃ n y, DataW.trod enc Tryz.prog w base spare held n f.type ((cs.drop f.offset).take (Tryz.prog.cellsOf f.type)) = some y := by
  obtain ⟨xs, n, _, _, h1, h2, h3⟩ := DataW.trod_struct ht h
  refine ⟨h1, fun i f hf => ?_⟩
  have hi : i < fs.size := (Array.getElem?_eq_some_iff.1 hf).1
  have := h3 i f hf
  rw [List.getElem?_eq_getElem (by omega)] at this
  exact ⟨n, _, this⟩
theorem scal_c {W : World} {v : Value} (h : scal v = true) (h1 : v.oneCell' = true) : DenC W [.v v] [v] :=
  ⟨fun ok _ => .cons (.v h) (.nil _ _), fun u hu => by rw [List.mem_singleton.1 hu]; exact h1⟩
theorem rat_cells (h : DataW.trod enc Tryz.prog w base spare held fuel 27 cs = some x) : ∃ r : RD, DenC w [.v (.bool r.neg), .v (.string r.num), .v (.string r.den)] cs := by
  obtain ⟨hl, hf⟩ := field_some Tryz.underlying27 h
  have hl : cs.length = 3 := hl.trans (by kernel_rfl)
  obtain ⟨n0, y0, f0⟩ := hf 0 _ rfl
  obtain ⟨n1, y1, f1⟩ := hf 1 _ rfl
  obtain ⟨n2, y2, f2⟩ := hf 2 _ rfl
  have f0 : DataW.trod enc Tryz.prog w base spare held n0 4 ((cs.drop 0).take (Tryz.prog.cellsOf 4)) = some y0 := f0
  have f1 : DataW.trod enc Tryz.prog w base spare held n1 9 ((cs.drop 1).take (Tryz.prog.cellsOf 9)) = some y1 := f1
  have f2 : DataW.trod enc Tryz.prog w base spare held n2 9 ((cs.drop 2).take (Tryz.prog.cellsOf 9)) = some y2 := f2
  rw [show Tryz.prog.cellsOf 4 = 1 by kernel_rfl] at f0
  rw [show Tryz.prog.cellsOf 9 = 1 by kernel_rfl] at f1 f2
  match cs, hl with
  | [a, b, c], _ =>
    obtain ⟨u, hu, _⟩ := DataW.trod_bool Tryz.underlying4 f0
    obtain ⟨s, hs, _⟩ := DataW.trod_string Tryz.underlying9 f1
    obtain ⟨t, ht, _⟩ := DataW.trod_string Tryz.underlying9 f2
    simp at hu hs ht
    subst hu; subst hs; subst ht
    refine ⟨⟨u, s, t⟩, ?_⟩
    exact ((scal_c rfl rfl).append ((scal_c rfl rfl).append (scal_c rfl rfl)) : DenC w ([.v (.bool u)] ++ ([.v (.string s)] ++ [.v (.string t)])) ([.bool u] ++ ([.string s] ++ [.string t])))
theorem pt_cells (h : DataW.trod enc Tryz.prog w base spare held fuel 29 cs = some x) : ∃ p : RD × RD, DenC w (pR p).cells cs := by
  obtain ⟨hl, hf⟩ := field_some Tryz.underlying29 h
  have hl : cs.length = 6 := hl.trans (by kernel_rfl)
  obtain ⟨n0, y0, f0⟩ := hf 0 _ rfl
  obtain ⟨n1, y1, f1⟩ := hf 1 _ rfl
  have f0 : DataW.trod enc Tryz.prog w base spare held n0 27 ((cs.drop 0).take (Tryz.prog.cellsOf 27)) = some y0 := f0
  have f1 : DataW.trod enc Tryz.prog w base spare held n1 27 ((cs.drop 3).take (Tryz.prog.cellsOf 27)) = some y1 := f1
  rw [show Tryz.prog.cellsOf 27 = 3 by kernel_rfl] at f0 f1
  obtain ⟨r, hr⟩ := rat_cells f0
  obtain ⟨s, hs⟩ := rat_cells f1
  refine ⟨(r, s), ?_⟩
  have := hr.append hs
  rw [show (cs.drop 0).take 3 ++ (cs.drop 3).take 3 = cs by
    match cs, hl with
    | [a, b, c, d, e, f], _ => rfl] at this
  exact this
theorem pts_cells (h : DataW.trod enc Tryz.prog w base spare held fuel 22 cs = some x) : ∃ l : List (RD × RD), DenC w [.l (rL l)] cs :=
  slice_den Tryz.underlying22 (size := 6) (by kernel_rfl) (by omega) pR (fun _ => rfl) (fun _ _ _ hh => pt_cells hh) h
theorem rings_cells (h : DataW.trod enc Tryz.prog w base spare held fuel 23 cs = some x) : ∃ l : List (List (RD × RD)), DenC w [.l (hR l)] cs :=
  slice_den Tryz.underlying23 (size := 1) (by kernel_rfl) (by omega) (fun l => D.l (rL l)) (fun _ => rfl) (fun _ _ _ hh => pts_cells hh) h
theorem pg_cells (h : DataW.trod enc Tryz.prog w base spare held fuel 25 cs = some x) : ∃ o hs, DenC w [.l (rL o), .l (hR hs)] cs := by
  obtain ⟨hl, hf⟩ := field_some Tryz.underlying25 h
  have hl : cs.length = 2 := hl.trans (by kernel_rfl)
  obtain ⟨n0, y0, f0⟩ := hf 0 _ rfl
  obtain ⟨n1, y1, f1⟩ := hf 1 _ rfl
  have f0 : DataW.trod enc Tryz.prog w base spare held n0 22 ((cs.drop 0).take (Tryz.prog.cellsOf 22)) = some y0 := f0
  have f1 : DataW.trod enc Tryz.prog w base spare held n1 23 ((cs.drop 1).take (Tryz.prog.cellsOf 23)) = some y1 := f1
  rw [show Tryz.prog.cellsOf 22 = 1 by kernel_rfl] at f0
  rw [show Tryz.prog.cellsOf 23 = 1 by kernel_rfl] at f1
  obtain ⟨r, hr⟩ := pts_cells f0
  obtain ⟨s, hs⟩ := rings_cells f1
  refine ⟨r, s, ?_⟩
  have := hr.append hs
  rw [show (cs.drop 0).take 1 ++ (cs.drop 1).take 1 = cs by
    match cs, hl with
    | [a, b], _ => rfl] at this
  exact this
theorem agg_den {ds : List D} {v : Value} (ha : ∃ us, v = .agg us) (h : DenC w ds v.cells.toList) : Den w (fun _ => True) (.a ds) v := by
  obtain ⟨us, rfl⟩ := ha
  have hd := h.den (fun _ => True) (fun _ => trivial)
  have e : (Value.agg us).cells.toList = us.toList := rfl
  rw [e] at hd
  have := Den.a (W := w) (ok := fun _ => True) hd.1 hd.2 (fun i u hu => h.one u (by rw [e]; exact List.mem_of_getElem? hu))
  simpa using this
end
end Go.Nv
end
section
namespace Go.Nv
open Go.Proofs Nw Go.RowKit Go.ChangeAt Go.WideShapes Go.ChangeShapes
set_option maxRecDepth 100000
set_option linter.unusedVariables false
set_option linter.unusedSimpArgs false
theorem poly_den {H : Type} {enc : TypeId × Value → H} {W : World} {b0 base : Nat} {spare : Nat → Bool} {held : Bool} {v : Value} {d : DataW H} {ps : List MemPlace} (hv : Value.okWide Tryz.prog W .any b0 25 v) (h : DataW.Trod enc Tryz.prog W base spare held 25 v d ps) :
    ∃ o hs, Den W (fun _ => True) (pgR o hs) v := by
  obtain ⟨fuel, h⟩ := h
  obtain ⟨o, hs, hc⟩ := pg_cells h
  refine ⟨o, hs, agg_den ?_ hc⟩
  unfold Value.okWide at hv
  rw [Tryz.underlying25] at hv
  obtain ⟨cs, rfl, _⟩ := hv
  exact ⟨_, rfl⟩
end Go.Nv
end
section
namespace Go.Nv
open Go.Proofs Nw
set_option maxRecDepth 100000
set_option linter.unusedVariables false
set_option linter.unusedSimpArgs false
theorem orI_zero {a b c : P2} : orI a b c = 0 ↔ orQ a b c = 0 := by unfold orI; exact sgnI_zero
theorem cmpI_le {p q : Rat} : cmpI p q ≤ 0 ↔ p ≤ q := by
  rw [cmpI_eq]; unfold cmpQ
  by_cases h1 : p < q
  · rw [if_pos h1]; constructor <;> intro h
    · grind
    · decide
  · rw [if_neg h1]
    by_cases h2 : q < p
    · rw [if_pos h2]; constructor <;> intro h
      · exact absurd h (by decide)
      · grind
    · rw [if_neg h2]; constructor <;> intro h
      · grind
      · decide
def leP (p q : P2) : Prop := p.1 < q.1 ∨ (p.1 = q.1 ∧ p.2 ≤ q.2)
theorem cmP_le {p q : P2} : cmP p q ≤ 0 ↔ leP p q := by
  unfold cmP leP
  by_cases h : cmpI p.1 q.1 = 0
  · rw [if_pos h, cmpI_le]
    have := cmpI_zero.1 h
    constructor
    · intro h1; exact .inr ⟨this, h1⟩
    · rintro (h1 | ⟨_, h1⟩)
      · grind
      · exact h1
  · rw [if_neg h]
    have hne : p.1 ≠ q.1 := fun e => h (cmpI_zero.2 e)
    constructor
    · intro h1; left; exact cmpI_neg.1 (by omega)
    · rintro (h1 | ⟨h1, _⟩)
      · have := cmpI_neg.2 h1; omega
      · exact absurd h1 hne
theorem leP_trans {p q r : P2} (h : leP p q) (k : leP q r) : leP p r := by
  unfold leP at *; grind
theorem leP_total (p q : P2) : leP p q ∨ leP q p := by
  unfold leP
  by_cases h1 : p.1 < q.1
  · exact .inl (.inl h1)
  · by_cases h2 : q.1 < p.1
    · exact .inr (.inl h2)
    · by_cases h3 : p.2 ≤ q.2
      · exact .inl (.inr ⟨by grind, h3⟩)
      · exact .inr (.inr ⟨by grind, by grind⟩)
theorem leP_not {p q : P2} (h : ¬ leP p q) : leP q p := (leP_total p q).resolve_left h
theorem leP_lin {p q : P2} (h : leP p q) {t : Rat} (t0 : 0 ≤ t) (t1 : t ≤ 1) : leP p (lin p q t) ∧ leP (lin p q t) q := by
  unfold leP at *
  simp only [lin]
  rcases h with h | ⟨h1, h2⟩
  · by_cases z : t = 0
    · subst z
      exact ⟨.inr ⟨by grind, by grind⟩, .inl (by grind)⟩
    · by_cases o : t = 1
      · subst o
        exact ⟨.inl (by grind), .inr ⟨by grind, by grind⟩⟩
      · have m1 := Rat.mul_pos (show 0 < t by grind) (show 0 < q.1 - p.1 by grind)
        have m2 := Rat.mul_pos (show 0 < 1 - t by grind) (show 0 < q.1 - p.1 by grind)
        exact ⟨.inl (by grind), .inl (by grind)⟩
  · have m1 := Rat.mul_nonneg t0 (show 0 ≤ q.2 - p.2 by grind)
    have m2 := Rat.mul_nonneg (show 0 ≤ 1 - t by grind) (show 0 ≤ q.2 - p.2 by grind)
    exact ⟨.inr ⟨by grind, by grind⟩, .inr ⟨by grind, by grind⟩⟩
theorem ordP_lin (a b : P2) {t : Rat} (t0 : 0 ≤ t) (t1 : t ≤ 1) : leP (ordP a b).1 (lin a b t) ∧ leP (lin a b t) (ordP a b).2 := by
  unfold ordP
  by_cases h : 0 < cmP a b
  · rw [if_pos h]
    have hn : ¬ leP a b := fun h1 => by have := cmP_le.2 h1; omega
    have := leP_lin (leP_not hn) (t := 1 - t) (by grind) (by grind)
    rw [lin_swap] at this
    have e : (1 : Rat) - (1 - t) = t := by grind
    rw [e] at this; exact this
  · rw [if_neg h]
    have h' : cmP a b ≤ 0 := by omega
    exact leP_lin (cmP_le.1 h') t0 t1
theorem gtrP_le {p q r : P2} (h : leP p r) (k : leP q r) : leP (gtrP p q) r := by unfold gtrP; split <;> assumption
theorem lsrP_le {p q r : P2} (h : leP r p) (k : leP r q) : leP r (lsrP p q) := by unfold lsrP; split <;> assumption
theorem unB_iff {t : Rat} : unB t = true ↔ 0 ≤ t ∧ t ≤ 1 := by
  unfold unB
  rw [Bool.and_eq_true, decide_eq_true_eq, decide_eq_true_eq, cmpI_le]
  have : 0 ≤ sgnI t ↔ 0 ≤ t := by
    rw [sgnI_eq]; unfold sgnQ
    by_cases h1 : t < 0
    · rw [if_pos h1]; constructor <;> intro h
      · exact absurd h (by decide)
      · grind
    · rw [if_neg h1]
      constructor <;> intro h
      · grind
      · split <;> decide
  rw [this]
theorem mtQ_none {a b c d : P2} (h : mtQ a b c d = none) : Disj a b c d := by
  intro s t s0 s1 t0 t1 heq
  have e1 := congrArg Prod.fst heq
  have e2 := congrArg Prod.snd heq
  simp only [lin] at e1 e2
  unfold mtQ at h
  by_cases hD : crQ (su b a) (su d c) = 0
  · rw [if_pos hD] at h
    by_cases hx : crQ (su b a) (su c a) = 0
    · rw [if_pos hx] at h
      have k1 := ordP_lin a b s0 s1
      have k2 := ordP_lin c d t0 t1
      rw [← heq] at k2
      have : leP (gtrP (ordP a b).1 (ordP c d).1) (lsrP (ordP a b).2 (ordP c d).2) := leP_trans (gtrP_le k1.1 k2.1) (lsrP_le k1.2 k2.2)
      rw [if_neg (by have := cmP_le.2 this; omega)] at h
      exact absurd h (by simp)
    · apply hx
      simp only [crQ, su] at hD ⊢
      have f1 : c.1 - a.1 = (b.1 - a.1) * s - (d.1 - c.1) * t := by grind
      have f2 : c.2 - a.2 = (b.2 - a.2) * s - (d.2 - c.2) * t := by grind
      rw [f1, f2]
      have : (b.1 - a.1) * ((b.2 - a.2) * s - (d.2 - c.2) * t) - (b.2 - a.2) * ((b.1 - a.1) * s - (d.1 - c.1) * t) = -t * ((b.1 - a.1) * (d.2 - c.2) - (b.2 - a.2) * (d.1 - c.1)) := by grind
      rw [this, hD]; grind
  · rw [if_neg hD] at h
    have es : crQ (su c a) (su d c) / crQ (su b a) (su d c) = s := by
      have : crQ (su c a) (su d c) = s * crQ (su b a) (su d c) := by
        simp only [crQ, su]
        have f1 : c.1 - a.1 = (b.1 - a.1) * s - (d.1 - c.1) * t := by grind
        have f2 : c.2 - a.2 = (b.2 - a.2) * s - (d.2 - c.2) * t := by grind
        rw [f1, f2]; grind
      rw [this]; grind
    have et : crQ (su c a) (su b a) / crQ (su b a) (su d c) = t := by
      have : crQ (su c a) (su b a) = t * crQ (su b a) (su d c) := by
        simp only [crQ, su]
        have f1 : c.1 - a.1 = (b.1 - a.1) * s - (d.1 - c.1) * t := by grind
        have f2 : c.2 - a.2 = (b.2 - a.2) * s - (d.2 - c.2) * t := by grind
        rw [f1, f2]; grind
      rw [this]; grind
    rw [es, et, if_pos (by rw [unB_iff.2 ⟨s0, s1⟩, unB_iff.2 ⟨t0, t1⟩]; rfl)] at h
    exact absurd h (by simp)
theorem mtB_false {a b c d : P2} (h : mtB a b c d = false) (hab : a ≠ b) (hcd : c ≠ d) : Disj a b c d := by
  refine mtQ_none ?_
  unfold mtB at h
  rw [decide_eq_false hab, decide_eq_false hcd] at h
  simpa using h
theorem Disj.swap {a b u v : P2} (h : Disj a b u v) : Disj u v a b := Nw.Disj.symm h
theorem rot_ix {l l' : List P2} (h : Rot l l') (hl : 0 < l.length) : ∃ j, ∀ k, ix l' k = ix l (j + k) := by
  obtain ⟨x, y, rfl, rfl⟩ := h
  refine ⟨x.length, fun k => ?_⟩
  unfold ix
  have hlen : (y ++ x).length = (x ++ y).length := by simp; omega
  rw [hlen]
  have hn : (x ++ y).length = x.length + y.length := List.length_append
  obtain ⟨n, hN⟩ : ∃ n, n = (x ++ y).length := ⟨_, rfl⟩
  rw [← hN] at hl ⊢
  have hk := Nat.mod_lt k hl
  have e : (x.length + k) % n = if k % n < y.length then x.length + k % n else k % n - y.length := by
    rw [← Nat.add_mod_mod]
    split
    · exact Nat.mod_eq_of_lt (by omega)
    · rw [Nat.mod_eq_sub_mod (by omega), Nat.mod_eq_of_lt (by omega)]; omega
  rw [e]
  rw [List.getD_eq_getElem?_getD, List.getD_eq_getElem?_getD]
  by_cases hc : k % n < y.length
  · rw [if_pos hc, List.getElem?_append_left hc, List.getElem?_append_right (by omega)]
    congr 2; omega
  · rw [if_neg hc, List.getElem?_append_right (by omega), List.getElem?_append_left (by omega)]
theorem flat_none {l : List P2} (h : ¬ 0 ≤ fstI (flB l) (List.range l.length)) {i : Nat} (hi : i < l.length) : flB l i = false := by
  unfold fstI at h
  cases hf : List.findIdx? (flB l) (List.range l.length) with
  | some k => rw [hf] at h; exact absurd (Int.natCast_nonneg k) h
  | none =>
    rw [List.findIdx?_eq_none_iff] at hf
    exact hf i (by simpa using hi)
structure RgOk (l : List P2) : Prop where
  len : 3 ≤ l.length ∧ l.length ≤ 64
  fl : ∀ i, i < l.length → flB l i = false
  cr : crB l = false
  pos : 0 < tot crQ l
  fst : kf l l.length = 0
theorem tot_div {l : List P2} : (0 < sgnI (tot crQ l / 2)) ↔ 0 < tot crQ l := by
  rw [sgnI_eq]; unfold sgnQ
  constructor
  · intro h
    by_cases h1 : tot crQ l / 2 < 0
    · rw [if_pos h1] at h; exact absurd h (by decide)
    · rw [if_neg h1] at h
      by_cases h2 : 0 < tot crQ l / 2
      · grind
      · rw [if_neg h2] at h; exact absurd h (by decide)
  · intro h
    rw [if_neg (by grind), if_pos (by grind)]; decide
theorem rgE_zero {l : List P2} : rgE l = 0 ↔ RgOk l := by
  unfold rgE
  constructor
  · intro h
    split at h
    · exact absurd h (by decide)
    · rename_i h1
      split at h
      · exact absurd h (by decide)
      · rename_i h2
        split at h
        · exact absurd h (by decide)
        · rename_i h3
          split at h
          · exact absurd h (by decide)
          · rename_i h4
            refine ⟨by omega, fun i hi => flat_none h2 hi, by simpa using h3, tot_div.1 (by omega), by omega⟩
  · intro h
    have h2 : ¬ 0 ≤ fstI (flB l) (List.range l.length) := by
      unfold fstI
      rw [List.findIdx?_eq_none_iff.2 (fun i hi => h.fl i (by simpa using hi))]
      decide
    have := tot_div.2 h.pos
    have := h.fst
    have := h.len
    rw [if_neg (by omega), if_neg h2, if_neg (by rw [h.cr]; decide), if_neg (by omega)]
theorem ix_add_mod {l : List P2} (j k : Nat) : ix l (j % l.length + k) = ix l (j + k) := by
  unfold ix; rw [Nat.mod_add_mod]
theorem ix_per {l : List P2} (j : Nat) : ix l (j + l.length) = ix l j := by
  unfold ix; rw [Nat.add_mod_right]
theorem prs_ix : ∀ (m : List P2) (c : P2) (e : P2 × P2), e ∈ prs c m → ∃ i, i < m.length ∧ (c :: m)[i]? = some e.1 ∧ (c :: m)[i + 1]? = some e.2
  | [], c, e, h => by simp [prs] at h
  | b :: m, c, e, h => by
    simp only [prs] at h
    rcases List.mem_cons.1 h with rfl | h
    · exact ⟨0, by simp, rfl, rfl⟩
    · obtain ⟨i, h1, h2, h3⟩ := prs_ix m b e h
      exact ⟨i + 1, by simp; omega, h2, h3⟩
theorem ix_some {l : List P2} {i : Nat} {p : P2} (h : l[i]? = some p) : ix l i = p := by
  have hi := (List.getElem?_eq_some_iff.1 h).1
  rw [ix_lt hi]; exact (List.getElem?_eq_some_iff.1 h).2
theorem RgOk.cor {l : List P2} (h : RgOk l) (j : Nat) : orQ (ix l j) (ix l (j + 1)) (ix l (j + 2)) ≠ 0 := by
  have h0 : 0 < l.length := by have := h.len; omega
  have hk := h.fl ((j + 1) % l.length) (Nat.mod_lt _ h0)
  unfold flB at hk
  rw [decide_eq_false_iff_not, orI_zero] at hk
  have e1 : ix l ((j + 1) % l.length + l.length - 1) = ix l j := by
    have : (j + 1) % l.length + l.length - 1 = (j + 1) % l.length + (l.length - 1) := by omega
    rw [this, ix_add_mod, show j + 1 + (l.length - 1) = j + l.length by omega, ix_per]
  have e2 : ix l ((j + 1) % l.length) = ix l (j + 1) := by have := ix_add_mod (l := l) (j + 1) 0; simpa using this
  have e3 : ix l ((j + 1) % l.length + 1) = ix l (j + 2) := ix_add_mod (l := l) (j + 1) 1
  rw [e1, e2, e3] at hk
  exact hk
theorem RgOk.ne {l : List P2} (h : RgOk l) (j : Nat) : ix l j ≠ ix l (j + 1) := (orQ_ne (h.cor j)).1
theorem RgOk.apart {l : List P2} (h : RgOk l) {i k : Nat} (hi : i < l.length) (hk : k < l.length) (h2 : i + 2 ≤ k) (h3 : ¬ (i = 0 ∧ k = l.length - 1)) : Disj (ix l i) (ix l (i + 1)) (ix l k) (ix l (k + 1)) := by
  have hx : xB l i k = false := by
    cases hb : xB l i k with
    | false => rfl
    | true => have := crB_t hi hk hb; rw [h.cr] at this; exact absurd this (by decide)
  refine mtB_false ?_ (h.ne i) (h.ne k)
  unfold xB at hx
  rw [decide_eq_true h2] at hx
  have : (decide (i = 0) && decide (k = l.length - 1)) = false := by
    by_cases a : i = 0
    · rw [decide_eq_true a, decide_eq_false (fun b => h3 ⟨a, b⟩)]; rfl
    · rw [decide_eq_false a]; rfl
  rw [this] at hx
  simpa [ed] using hx
theorem RgOk.simp {l : List P2} (h : RgOk l) : Simp l := by
  have hl := h.len
  have h0 : 0 < l.length := by omega
  refine ⟨hl.1, fun a b c r hr => ?_, fun a b c r hr e he => ?_⟩
  · obtain ⟨j, hj⟩ := rot_ix hr h0
    have e0 := hj 0
    have e1 := hj 1
    have e2 := hj 2
    have hlen := hr.len
    rw [ix_some (p := a) rfl] at e0
    rw [ix_some (p := b) rfl] at e1
    rw [ix_some (p := c) rfl] at e2
    rw [e0, e1, e2]
    exact h.cor j
  · obtain ⟨j, hj⟩ := rot_ix hr h0
    have hlen := hr.len
    obtain ⟨i, i1, i2, i3⟩ := prs_ix _ _ _ he
    have e0 := hj 0
    have e1 := hj 1
    rw [ix_some (p := a) rfl] at e0
    rw [ix_some (p := b) rfl] at e1
    have e2 := hj (i + 2)
    have e3 := hj (i + 3)
    rw [ix_some (l := a :: b :: c :: r) (p := e.1) i2] at e2
    rw [ix_some (l := a :: b :: c :: r) (p := e.2) i3] at e3
    rw [e0, e1, e2, e3]
    simp only [List.length_cons] at hlen
    -- the two places modulo the length
    obtain ⟨n, hn⟩ : ∃ n, n = l.length := ⟨_, rfl⟩
    have hA := Nat.mod_lt j h0
    have hB := Nat.mod_lt (j + (i + 2)) h0
    have r0 : ix l (j + 0) = ix l (j % l.length) := by have := ix_add_mod (l := l) j 0; simpa using this.symm
    have r1 : ix l (j + 1) = ix l (j % l.length + 1) := (ix_add_mod (l := l) j 1).symm
    have r2 : ix l (j + (i + 2)) = ix l ((j + (i + 2)) % l.length) := by have := ix_add_mod (l := l) (j + (i + 2)) 0; simpa using this.symm
    have r3 : ix l (j + (i + 3)) = ix l ((j + (i + 2)) % l.length + 1) := (ix_add_mod (l := l) (j + (i + 2)) 1).symm
    rw [r0, r1, r2, r3]
    have hm : (j + (i + 2)) % l.length = if j % l.length + (i + 2) < l.length then j % l.length + (i + 2) else j % l.length + (i + 2) - l.length := by
      rw [← Nat.mod_add_mod]
      split
      · exact Nat.mod_eq_of_lt (by assumption)
      · rw [Nat.mod_eq_sub_mod (by omega), Nat.mod_eq_of_lt (by omega)]
    by_cases hc : j % l.length + (i + 2) < l.length
    · rw [if_pos hc] at hm
      exact h.apart hA hB (by omega) (by omega)
    · rw [if_neg hc] at hm
      exact Disj.swap (h.apart hB hA (by omega) (by omega))
theorem crQ_ar : crQ = ar := rfl
theorem RgOk.area {l : List P2} (h : RgOk l) : 0 < tot ar l := h.pos
end Go.Nv
end
