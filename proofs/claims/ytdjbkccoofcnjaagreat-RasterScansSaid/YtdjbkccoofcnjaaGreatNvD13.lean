import Derived.Test.YtdjbkccoofcnjaaGreatNvD10
import Derived.Test.YtdjbkccoofcnjaaGreatNvC46
import Derived.Test.YtdjbkccoofcnjaaGreatNvD11
import Derived.Test.YtdjbkccoofcnjaaGreatNvD12
set_option linter.all false
set_option linter.unusedVariables false
set_option linter.unusedSimpArgs false
section
namespace Go.Nv
open Go.Proofs Nw Go.RowKit Go.ChangeAt Go.WideShapes Go.ChangeShapes
set_option maxRecDepth 100000
set_option linter.unusedVariables false
set_option linter.unusedSimpArgs false
section
variable {H : Type} {enc : TypeId × Value → H} {P : Program} {w : World} {base : Nat} {spare : Nat → Bool} {held : Bool} {fuel : Nat} {t : TypeId} {cs : List Value} {x : DataW H × List MemPlace}
structure DenC (W : World) (ds : List D) (us : List Value) : Prop where
  den : ∀ ok : Nat → Prop, (∀ b, ok b) → DenL W ok ds us
  one : ∀ u ∈ us, u.oneCell' = true
theorem DenC.append {W : World} {a b : List D} {us vs : List Value} (h : DenC W a us) (k : DenC W b vs) : DenC W (a ++ b) (us ++ vs) :=
  ⟨fun ok ho => (h.den ok ho).append (k.den ok ho), fun u hu => (List.mem_append.1 hu).elim (h.one u) (k.one u)⟩
theorem choose_list {α : Type} {Q : Nat → α → Prop} : ∀ (n : Nat), (∀ i, i < n → ∃ y, Q i y) → ∃ l : List α, l.length = n ∧ ∀ i (h : i < l.length), Q i l[i]
  | 0, _ => ⟨[], rfl, fun i h => by simp at h⟩
  | n + 1, h => by
    obtain ⟨l, h1, h2⟩ := choose_list n (fun i hi => h i (by omega))
    obtain ⟨y, hy⟩ := h n (by omega)
    refine ⟨l ++ [y], by simp [h1], fun i hi => ?_⟩
    by_cases hl : i < l.length
    · rw [List.getElem_append_left hl]; exact h2 i hl
    · have : i = l.length := by simp at hi; omega
      subst this
      rw [List.getElem_append_right (by omega)]
      simp [h1, hy]
theorem flat_map_den {α : Type} {W : World} (f : α → D) {size : Nat} (hf : ∀ y, (f y).cells.length = size) {b : Nat} : ∀ (l : List (α × List Value)) (off : Nat), (∀ i (h : i < l.length), DenC W (f l[i].1).cells l[i].2 ∧ l[i].2.length = size ∧ ∀ r, r < size → W.cell? ⟨b, off + i * size + r, none⟩ = l[i].2[r]?) →
    DenC W (flat (l.map fun p => f p.1)) (l.flatMap (·.2)) ∧ ∀ (j : Nat) (u : Value), (l.flatMap (·.2))[j]? = some u → W.cell? ⟨b, off + j, none⟩ = some u
  | [], off, _ => ⟨⟨fun ok _ => DenL.nil _ _, fun u hu => by simp at hu⟩, fun j u h => by simp at h⟩
  | p :: l, off, h => by
    obtain ⟨a1, a2, a3⟩ := h 0 (by simp)
    obtain ⟨b1, b2⟩ := flat_map_den f hf (b := b) l (off + size) (fun i hi => by
      have := h (i + 1) (by simpa using hi)
      simp only [List.getElem_cons_succ] at this
      refine ⟨this.1, this.2.1, fun r hr => ?_⟩
      rw [← this.2.2 r hr]
      congr 2
      rw [Nat.add_mul]; omega)
    simp only [List.getElem_cons_zero] at a1 a2 a3
    refine ⟨?_, fun j u hj => ?_⟩
    · simp only [List.map_cons, List.flatMap_cons]
      exact a1.append b1
    · simp only [List.flatMap_cons] at hj
      by_cases hl : j < size
      · rw [List.getElem?_append_left (by omega)] at hj
        have := a3 j hl
        rw [hj] at this
        simpa using this
      · rw [List.getElem?_append_right (by omega)] at hj
        have := b2 _ _ hj
        rw [a2] at this
        rw [← this]
        congr 2
        omega
theorem slice_den {e : TypeId} {size : Nat} (ht : P.underlying t = some (.slice e)) (hc : P.cellsOf e = size) (h0 : 0 < size) {α : Type} (f : α → D) (hf : ∀ y, (f y).cells.length = size)
    (elem : ∀ (n : Nat) (cs : List Value) (x : DataW H × List MemPlace), DataW.trod enc P w base spare held n e cs = some x → ∃ y, DenC w (f y).cells cs)
    (h : DataW.trod enc P w base spare held fuel t cs = some x) : ∃ l : List α, DenC w [.l (l.map f)] cs := by
  have single : ∀ {d : D} {v : Value}, (∀ ok : Nat → Prop, (∀ b, ok b) → Den w ok d v) → v.oneCell' = true → DenC w [d] [v] := fun h1 h2 =>
    ⟨fun ok ho => .cons (h1 ok ho) (.nil _ _), fun u hu => by rw [List.mem_singleton.1 hu]; exact h2⟩
  rcases DataW.trod_slice ht h with ⟨rfl, _⟩ | ⟨a, len, cap, elems, rest, n, rfl, rfl, _, _, hlc, hcap, hel, hget, _, _⟩
  · exact ⟨[], single (fun ok _ => .l0 (by simp) fun _ => rfl) rfl⟩
  · have each : ∀ i, i < len → ∃ p : α × List Value, DenC w (f p.1).cells p.2 ∧ p.2.length = size ∧ ∀ r, r < size → w.cell? ((a.add (i * size)).add r) = p.2[r]? := by
      intro i hi
      have hi' := hget i hi
      rw [List.getElem?_eq_getElem (by omega), Option.bind_eq_some_iff] at hi'
      obtain ⟨us, h1, h2⟩ := hi'
      rw [hc] at h1
      obtain ⟨_, l1, c1⟩ := World.cells?_some h1
      obtain ⟨y, hy⟩ := elem _ _ _ h2
      exact ⟨(y, us), hy, l1, c1⟩
    obtain ⟨l, hl, hq⟩ := choose_list len each
    cases hlen : len with
    | zero =>
      refine ⟨[], single (fun ok _ => .l0 hcap fun e => by cases e) rfl⟩
    | succ k =>
      have hsp : a = ⟨a.block, a.off, none⟩ := by
        obtain ⟨q1, q2, q3⟩ := hq 0 (by omega)
        have := q3 0 h0
        rw [List.getElem?_eq_getElem (by omega)] at this
        simp only [Nat.zero_mul, Addr.add, if_true] at this
        unfold World.cell? at this
        split at this
        · split at this
          · cases this
          · rename_i hs
            obtain ⟨b, o, s⟩ := a
            cases s with
            | none => rfl
            | some s => simp at hs
        · cases this
      have main := flat_map_den f hf (b := a.block) l a.off (fun i hi => by
        obtain ⟨q1, q2, q3⟩ := hq i hi
        refine ⟨q1, q2, fun r hr => ?_⟩
        rw [← q3 r hr]
        congr 1
        rw [hsp]
        unfold Addr.add
        by_cases h1 : i * size = 0
        · rw [if_pos h1, h1]
          by_cases h2 : r = 0
          · rw [if_pos h2, h2]; rfl
          · rw [if_neg h2]; rfl
        · rw [if_neg h1]
          by_cases h2 : r = 0
          · rw [if_pos h2, h2]; rfl
          · rw [if_neg h2])
      refine ⟨l.map (·.1), ?_⟩
      have hxs : (l.map (·.1)).map f = l.map fun p => f p.1 := by rw [List.map_map]; rfl
      rw [hxs]
      have hlm : (l.map fun p => f p.1).length = len := by rw [List.length_map, hl]
      have hdl := main.1.den (fun _ => True) (fun _ => trivial)
      have e1 : Value.slice (some a) (k + 1) cap = .slice (some ⟨a.block, a.off, none⟩) (l.map fun p => f p.1).length cap := by rw [← hsp, hlm, hlen]
      rw [e1]
      refine single (fun ok ho => ?_) rfl
      refine .l (us := l.flatMap (·.2)) ?_ hdl.1 (ho _) main.2 (main.1.den ok ho).2 (fun i u hu => main.1.one u (List.mem_of_getElem? hu)) (by omega) hcap
      intro hnil
      have hz := hq 0 (by omega)
      have : l[0].2 = [] := by
        have h2 : ∀ p ∈ l, p.2 = [] := by simpa using hnil
        exact h2 _ (List.getElem_mem _)
      rw [this] at hz
      have := hz.2.1
      simp at this; omega
end
end Go.Nv
end
section
namespace Go.Nv
open Go.Proofs Nw Go.RowKit Go.ChangeAt Go.WideShapes Go.ChangeShapes
set_option maxRecDepth 100000
set_option linter.unusedVariables false
set_option linter.unusedSimpArgs false
section
variable {H : Type} {enc : TypeId × Value → H} {w : World} {base : Nat} {spare : Nat → Bool} {held : Bool} {fuel : Nat} {cs : List Value} {x : DataW H × List MemPlace}
theorem field_some {t : TypeId} {fs : Array Field} (ht : Tryz.prog.underlying t = some (.struct fs)) (h : DataW.trod enc Tryz.prog w base spare held fuel t cs = some x) :
    cs.length = Tryz.prog.cellsOf t ∧ ∀ (i : Nat) (f : Field), fs[i]? = some f → ∃ n y, DataW.trod enc Tryz.prog w base spare held n f.type ((cs.drop f.offset).take (Tryz.prog.cellsOf f.type)) = some y := by
  obtain ⟨xs, n, _, _, h1, h2, h3⟩ := DataW.trod_struct ht h
  refine ⟨h1, fun i f hf => ?_⟩
  have hi : i < fs.size := (Array.getElem?_eq_some_iff.1 hf).1
  have := h3 i f hf
  rw [List.getElem?_eq_getElem (by omega)] at this
  exact ⟨n, _, this⟩
theorem scal_c {W : World} {v : Value} (h : scal v = true) (h1 : v.oneCell' = true) : DenC W [.v v] [v] :=
  ⟨fun ok _ => .cons (.v h) (.nil _ _), fun u hu => by rw [List.mem_singleton.1 hu]; exact h1⟩
theorem rat_cells (h : DataW.trod enc Tryz.prog w base spare held fuel 27 cs = some x) : ∃ r : RD, DenC w [.v (.bool r.neg), .v (.string r.num), .v (.string r.den)] cs := by
  obtain ⟨hl, hf⟩ := field_some Tryz.underlying27 h
  have hl : cs.length = 3 := hl.trans (by kernel_rfl)
  obtain ⟨n0, y0, f0⟩ := hf 0 _ rfl
  obtain ⟨n1, y1, f1⟩ := hf 1 _ rfl
  obtain ⟨n2, y2, f2⟩ := hf 2 _ rfl
  have f0 : DataW.trod enc Tryz.prog w base spare held n0 4 ((cs.drop 0).take (Tryz.prog.cellsOf 4)) = some y0 := f0
  have f1 : DataW.trod enc Tryz.prog w base spare held n1 9 ((cs.drop 1).take (Tryz.prog.cellsOf 9)) = some y1 := f1
  have f2 : DataW.trod enc Tryz.prog w base spare held n2 9 ((cs.drop 2).take (Tryz.prog.cellsOf 9)) = some y2 := f2
  rw [show Tryz.prog.cellsOf 4 = 1 by kernel_rfl] at f0
  rw [show Tryz.prog.cellsOf 9 = 1 by kernel_rfl] at f1 f2
  match cs, hl with
  | [a, b, c], _ =>
    obtain ⟨u, hu, _⟩ := DataW.trod_bool Tryz.underlying4 f0
    obtain ⟨s, hs, _⟩ := DataW.trod_string Tryz.underlying9 f1
    obtain ⟨t, ht, _⟩ := DataW.trod_string Tryz.underlying9 f2
    simp at hu hs ht
    subst hu; subst hs; subst ht
    refine ⟨⟨u, s, t⟩, ?_⟩
    exact ((scal_c rfl rfl).append ((scal_c rfl rfl).append (scal_c rfl rfl)) : DenC w ([.v (.bool u)] ++ ([.v (.string s)] ++ [.v (.string t)])) ([.bool u] ++ ([.string s] ++ [.string t])))
theorem pt_cells (h : DataW.trod enc Tryz.prog w base spare held fuel 29 cs = some x) : ∃ p : RD × RD, DenC w (pR p).cells cs := by
  obtain ⟨hl, hf⟩ := field_some Tryz.underlying29 h
  have hl : cs.length = 6 := hl.trans (by kernel_rfl)
  obtain ⟨n0, y0, f0⟩ := hf 0 _ rfl
  obtain ⟨n1, y1, f1⟩ := hf 1 _ rfl
  have f0 : DataW.trod enc Tryz.prog w base spare held n0 27 ((cs.drop 0).take (Tryz.prog.cellsOf 27)) = some y0 := f0
  have f1 : DataW.trod enc Tryz.prog w base spare held n1 27 ((cs.drop 3).take (Tryz.prog.cellsOf 27)) = some y1 := f1
  rw [show Tryz.prog.cellsOf 27 = 3 by kernel_rfl] at f0 f1
  obtain ⟨r, hr⟩ := rat_cells f0
  obtain ⟨s, hs⟩ := rat_cells f1
  refine ⟨(r, s), ?_⟩
  have := hr.append hs
  rw [show (cs.drop 0).take 3 ++ (cs.drop 3).take 3 = cs by
    match cs, hl with
    | [a, b, c, d, e, f], _ => rfl] at this
  exact this
theorem pts_cells (h : DataW.trod enc Tryz.prog w base spare held fuel 22 cs = some x) : ∃ l : List (RD × RD), DenC w [.l (rL l)] cs :=
  slice_den Tryz.underlying22 (size := 6) (by kernel_rfl) (by omega) pR (fun _ => rfl) (fun _ _ _ hh => pt_cells hh) h
theorem rings_cells (h : DataW.trod enc Tryz.prog w base spare held fuel 23 cs = some x) : ∃ l : List (List (RD × RD)), DenC w [.l (hR l)] cs :=
  slice_den Tryz.underlying23 (size := 1) (by kernel_rfl) (by omega) (fun l => D.l (rL l)) (fun _ => rfl) (fun _ _ _ hh => pts_cells hh) h
theorem pg_cells (h : DataW.trod enc Tryz.prog w base spare held fuel 25 cs = some x) : ∃ o hs, DenC w [.l (rL o), .l (hR hs)] cs := by
  obtain ⟨hl, hf⟩ := field_some Tryz.underlying25 h
  have hl : cs.length = 2 := hl.trans (by kernel_rfl)
  obtain ⟨n0, y0, f0⟩ := hf 0 _ rfl
  obtain ⟨n1, y1, f1⟩ := hf 1 _ rfl
  have f0 : DataW.trod enc Tryz.prog w base spare held n0 22 ((cs.drop 0).take (Tryz.prog.cellsOf 22)) = some y0 := f0
  have f1 : DataW.trod enc Tryz.prog w base spare held n1 23 ((cs.drop 1).take (Tryz.prog.cellsOf 23)) = some y1 := f1
  rw [show Tryz.prog.cellsOf 22 = 1 by kernel_rfl] at f0
  rw [show Tryz.prog.cellsOf 23 = 1 by kernel_rfl] at f1
  obtain ⟨r, hr⟩ := pts_cells f0
  obtain ⟨s, hs⟩ := rings_cells f1
  refine ⟨r, s, ?_⟩
  have := hr.append hs
  rw [show (cs.drop 0).take 1 ++ (cs.drop 1).take 1 = cs by
    match cs, hl with
    | [a, b], _ => rfl] at this
  exact this
theorem agg_den {ds : List D} {v : Value} (ha : ∃ us, v = .agg us) (h : DenC w ds v.cells.toList) : Den w (fun _ => True) (.a ds) v := by
  obtain ⟨us, rfl⟩ := ha
  have hd := h.den (fun _ => True) (fun _ => trivial)
  have e : (Value.agg us).cells.toList = us.toList := rfl
  rw [e] at hd
  have := Den.a (W := w) (ok := fun _ => True) hd.1 hd.2 (fun i u hu => h.one u (by rw [e]; exact List.mem_of_getElem? hu))
  simpa using this
end
end Go.Nv
end
section
namespace Go.Nv
open Go.Proofs Nw Go.RowKit Go.ChangeAt Go.WideShapes Go.ChangeShapes
set_option maxRecDepth 100000
set_option linter.unusedVariables false
set_option linter.unusedSimpArgs false
theorem poly_den {H : Type} {enc : TypeId × Value → H} {W : World} {b0 base : Nat} {spare : Nat → Bool} {held : Bool} {v : Value} {d : DataW H} {ps : List MemPlace} (hv : Value.okWide Tryz.prog W .any b0 25 v) (h : DataW.Trod enc Tryz.prog W base spare held 25 v d ps) :
    ∃ o hs, Den W (fun _ => True) (pgR o hs) v := by
  obtain ⟨fuel, h⟩ := h
  obtain ⟨o, hs, hc⟩ := pg_cells h
  refine ⟨o, hs, agg_den ?_ hc⟩
  unfold Value.okWide at hv
  rw [Tryz.underlying25] at hv
  obtain ⟨cs, rfl, _⟩ := hv
  exact ⟨_, rfl⟩
end Go.Nv
end
section
namespace Go.Nv
open Go.Proofs Nw Go.RowKit Go.ChangeAt Go.WideShapes Go.ChangeShapes
open Go.Proofs.YtdjbkccoofcnjaaGreat
set_option maxRecDepth 100000
set_option linter.unusedVariables false
set_option linter.unusedSimpArgs false
theorem point_den {W : World} {b0 : Nat} {t : TypeId} {v : Value} {fs : Array Field} (hs : Tryz.prog.underlying t = some (.struct fs)) (hc : Tryz.prog.cellsOf t = 6) (ht : Tryz.prog.cellTypes Tryz.prog.depth t = some [4, 9, 9, 4, 9, 9])
    (h : Value.okWide Tryz.prog W .any b0 t v) : ∃ p q : RD, ∀ (W' : World) (ok : Nat → Prop), Den W' ok (ptR p q) v := by
  unfold Value.okWide at h
  rw [hs] at h
  obtain ⟨cs, rfl, hz, ts, hts, _, hcell⟩ := h
  rw [hc] at hz
  rw [ht] at hts
  cases hts
  have cb : ∀ i, i < 6 → [4, 9, 9, 4, 9, 9][i % 6]? = some 4 → ∃ b, cs[i]? = some (.bool b) := by
    intro i hi h4
    obtain ⟨x, hx⟩ : ∃ x, cs[i]? = some x := ⟨cs[i], Array.getElem?_eq_getElem (by omega)⟩
    obtain ⟨u, h1, h2⟩ := hcell i x hx
    have e : u = 4 := by
      have : some u = some 4 := h1.symm.trans h4
      simpa using this
    subst e
    obtain ⟨b, rfl⟩ := cell_bool Tryz.underlying4 h2
    exact ⟨b, hx⟩
  have cst : ∀ i, i < 6 → [4, 9, 9, 4, 9, 9][i % 6]? = some 9 → ∃ b, cs[i]? = some (.string b) := by
    intro i hi h4
    obtain ⟨x, hx⟩ : ∃ x, cs[i]? = some x := ⟨cs[i], Array.getElem?_eq_getElem (by omega)⟩
    obtain ⟨u, h1, h2⟩ := hcell i x hx
    have e : u = 9 := by
      have : some u = some 9 := h1.symm.trans h4
      simpa using this
    subst e
    obtain ⟨b, rfl⟩ := cell_str Tryz.underlying9 h2
    exact ⟨b, hx⟩
  obtain ⟨a0, e0⟩ := cb 0 (by omega) rfl
  obtain ⟨a1, e1⟩ := cst 1 (by omega) rfl
  obtain ⟨a2, e2⟩ := cst 2 (by omega) rfl
  obtain ⟨a3, e3⟩ := cb 3 (by omega) rfl
  obtain ⟨a4, e4⟩ := cst 4 (by omega) rfl
  obtain ⟨a5, e5⟩ := cst 5 (by omega) rfl
  have hcs : cs = #[.bool a0, .string a1, .string a2, .bool a3, .string a4, .string a5] := by
    apply Array.ext_getElem?
    intro i
    rcases Nat.lt_or_ge i 6 with hi | hi
    · match i, hi with
      | 0, _ => exact e0
      | 1, _ => exact e1
      | 2, _ => exact e2
      | 3, _ => exact e3
      | 4, _ => exact e4
      | 5, _ => exact e5
      | n + 6, h => omega
    · rw [Array.getElem?_eq_none (by omega), Array.getElem?_eq_none (by simpa using hi)]
  subst hcs
  refine ⟨⟨a0, a1, a2⟩, ⟨a3, a4, a5⟩, fun W' ok => ?_⟩
  refine .a (us := [.bool a0, .string a1, .string a2, .bool a3, .string a4, .string a5]) rfl (fun i c u hc hu => ?_) (fun i u hu => ?_)
  · have hx : c = .v u ∧ scal u = true := by
      match i with
      | 0 => simp at hc hu; subst hc; subst hu; exact ⟨rfl, rfl⟩
      | 1 => simp at hc hu; subst hc; subst hu; exact ⟨rfl, rfl⟩
      | 2 => simp at hc hu; subst hc; subst hu; exact ⟨rfl, rfl⟩
      | 3 => simp at hc hu; subst hc; subst hu; exact ⟨rfl, rfl⟩
      | 4 => simp at hc hu; subst hc; subst hu; exact ⟨rfl, rfl⟩
      | 5 => simp at hc hu; subst hc; subst hu; exact ⟨rfl, rfl⟩
      | n + 6 => simp at hc
    rw [hx.1]; exact .v hx.2
  · match i with
    | 0 => simp at hu; subst hu; rfl
    | 1 => simp at hu; subst hu; rfl
    | 2 => simp at hu; subst hu; rfl
    | 3 => simp at hu; subst hu; rfl
    | 4 => simp at hu; subst hu; rfl
    | 5 => simp at hu; subst hu; rfl
    | n + 6 => simp at hu
section
variable {H : Type} {enc : TypeId × Value → H} {P : Program} {w : World} {base : Nat} {spare : Nat → Bool} {held : Bool}
end
end Go.Nv
end
section
namespace Go.Nv
open Go.Proofs Nw Go.RowKit Go.ChangeAt Go.WideShapes Go.ChangeShapes
open Go.Proofs.YtdjbkccoofcnjaaGreat
set_option maxRecDepth 100000
set_option linter.unusedVariables false
set_option linter.unusedSimpArgs false
theorem scans_lifted (hA : Fun Tryz.prog 12 [] [.v (.bool true)]) (os : Os) (started : os.Started) (H : Type) (enc : TypeId × Value → H) :
    ReturnsInHanded {} Tryz.checked os 10 .any (Rows.rasterScansSpec.pre6 enc Tryz.prog Tryz.f10 Rows.rasterScansRow.domain false) (Rows.rasterScansSpec.post enc Tryz.prog Tryz.f10 false true false false) := by
  refine returnsInHanded_of_change (C := Tryz.checked) tryz_own started (by kernel_rfl) Tryz.func10
    (ChangeSpec.witness6 (enc := enc) (C := Tryz.checked) false ⟨#[], #[.agg #[.slice none 0 0, .slice none 0 0],
      .agg #[.bool false, .string ⟨#[]⟩, .string ⟨#[]⟩, .bool false, .string ⟨#[]⟩, .string ⟨#[]⟩]], []⟩ 8 (by kernel_rfl) (by kernel_rfl) (by kernel_rfl) (by kernel_rfl)) ?_
  intro W base args ds gs before hval0 hW hcnd _
  have hval : ∀ (j : Nat) t v, Tryz.f10.params[j]? = some t → args[j]? = some v → Value.okWide Tryz.prog W .any base t v := hval0
  have hW' := hW
  obtain ⟨p, q, hA0, hV, rfl, hfz, hnd⟩ := hW
  have hAr : DataW.TrodAll enc Tryz.prog W 0 (fun _ => true) true Tryz.f10.params.toList args.toList ds p := hA0
  rw [Tryz.params10] at hAr hval
  obtain ⟨v0, vs, d0, ds1, p0, q0, hargs, rfl, rfl, h0, hrest⟩ := trodAll_cons hAr
  obtain ⟨v1, vs', d1, ds2, p1, q1, rfl, rfl, rfl, h1, hrest'⟩ := trodAll_cons hrest
  obtain ⟨rfl, rfl, rfl⟩ := trodAll_nil hrest'
  obtain rfl : args = #[v0, v1] := by cases args; simp_all
  obtain ⟨rfl, rfl⟩ := trodVars_none hV
  clear hA0 hval0
  obtain ⟨o, hs, e0⟩ := poly_den (hval 0 25 v0 rfl rfl) h0
  obtain ⟨pp, qq, e4⟩ := point_den Tryz.underlying29 (by kernel_rfl) (by kernel_rfl) (hval 1 29 v1 rfl rfl)
  have hd : DenL W (fun _ => True) [pgR o hs, ptR pp qq] [v0, v1] := .cons e0 (.cons (e4 _ _) (.nil _ _))
  refine ((law10 hA o hs pp qq).2 W _ _ hd).mono fun e W' hr => ?_
  obtain ⟨v, rfl, hv, hb⟩ := hr
  obtain rfl : v = .bool true := by cases hv; rfl
  have hlt : ∀ x ∈ p0 ++ p1, x.block < W.heap.size := fun x hx => hW'.lt x (by simpa using hx)
  refine ⟨_, rfl, post_below (pa := p0 ++ p1) (pv := []) hW' (by simp) hb (fun _ _ _ => trodAll_mk1 (shut_bool Tryz.underlying4 _)) (fun sp hsp => ?_) (fun _ _ => rfl) (ok_one (by kernel_rfl) rfl (okWide_bool_mk Tryz.underlying4 _))⟩
  have st : ∀ {t : TypeId} {v : Value} {d : DataW H} {ps : List MemPlace}, Tryz.prog.readableRec t = true → t < Tryz.prog.types.size → DataW.Trod enc Tryz.prog W 0 (fun _ => true) true t v d ps → (∀ x ∈ ps, x ∈ p0 ++ p1) → DataW.Trod enc Tryz.prog W' 0 sp true t v d ps :=
    fun hr hrow h hin => WideElems.Trod_stays tryz_laid hr hrow h (fun x hx => hb.same (hlt x (hin x hx))) (fun x hx => hsp x (by simpa using hin x hx))
  rw [Tryz.params10]
  exact ⟨p0, p1, st (by kernel_rfl) (of_decide_eq_true (by kernel_rfl)) h0 (fun x hx => by simp [hx]), trodAll_mk1 (st (by kernel_rfl) (of_decide_eq_true (by kernel_rfl)) h1 (fun x hx => by simp [hx])), rfl⟩
end Go.Nv
end
