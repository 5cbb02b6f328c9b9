import Derived.Test.YtdjbkccoofcnjaaGreatRows
import Derived.ProofKit
import Derived.Test.YtdjbkccoofcnjaaGreatNvC9
set_option linter.all false
set_option linter.unusedVariables false
set_option linter.unusedSimpArgs false
section
namespace Go.Nv
open Go.Proofs Nw Go.RowKit Go.ChangeAt Go.WideShapes Go.ChangeShapes
set_option maxRecDepth 100000
set_option linter.unusedVariables false
set_option linter.unusedSimpArgs false
theorem cell_bool {W : World} {b0 : Nat} {t : TypeId} {v : Value} (ht : Tryz.prog.underlying t = some .bool) (h : Cell.okWide Tryz.prog W .any b0 t v) : ∃ b, v = .bool b := by
  unfold Cell.okWide Cell.ok at h
  rw [ht] at h
  cases v <;> simp at h <;> exact ⟨_, rfl⟩
theorem cell_str {W : World} {b0 : Nat} {t : TypeId} {v : Value} (ht : Tryz.prog.underlying t = some .string) (h : Cell.okWide Tryz.prog W .any b0 t v) : ∃ s, v = .string s := by
  unfold Cell.okWide Cell.ok at h
  rw [ht] at h
  cases v <;> simp at h <;> exact ⟨_, rfl⟩
theorem cell_int {W : World} {b0 : Nat} {t : TypeId} {v : Value} (ht : Tryz.prog.underlying t = some (.int .i64)) (h : Value.okWide Tryz.prog W .any b0 t v) : ∃ n, v = .int .i64 n := by
  unfold Value.okWide Cell.okWide Cell.ok at h
  rw [ht] at h
  cases v <;> simp at h
  obtain ⟨rfl, _⟩ := h
  exact ⟨_, rfl⟩
theorem quad_den {W : World} {b0 : Nat} {t : TypeId} {v : Value} {fs : Array Field} (hs : Tryz.prog.underlying t = some (.struct fs)) (hc : Tryz.prog.cellsOf t = 12) (ht : Tryz.prog.cellTypes Tryz.prog.depth t = some [4, 9, 9, 4, 9, 9, 4, 9, 9, 4, 9, 9])
    (h : Value.okWide Tryz.prog W .any b0 t v) : ∃ p q u w : RD, ∀ (W' : World) (ok : Nat → Prop), Den W' ok (quR p q u w) v := by
  unfold Value.okWide at h
  rw [hs] at h
  obtain ⟨cs, rfl, hz, ts, hts, _, hcell⟩ := h
  rw [hc] at hz
  rw [ht] at hts
  cases hts
  have cb : ∀ i, i < 12 → [4, 9, 9, 4, 9, 9, 4, 9, 9, 4, 9, 9][i % 12]? = some 4 → ∃ b, cs[i]? = some (.bool b) := by
    intro i hi h4
    obtain ⟨x, hx⟩ : ∃ x, cs[i]? = some x := ⟨cs[i], Array.getElem?_eq_getElem (by omega)⟩
    obtain ⟨u, h1, h2⟩ := hcell i x hx
    have e : u = 4 := by
      have : some u = some 4 := h1.symm.trans h4
      simpa using this
    subst e
    obtain ⟨b, rfl⟩ := cell_bool Tryz.underlying4 h2
    exact ⟨b, hx⟩
  have cst : ∀ i, i < 12 → [4, 9, 9, 4, 9, 9, 4, 9, 9, 4, 9, 9][i % 12]? = some 9 → ∃ b, cs[i]? = some (.string b) := by
    intro i hi h4
    obtain ⟨x, hx⟩ : ∃ x, cs[i]? = some x := ⟨cs[i], Array.getElem?_eq_getElem (by omega)⟩
    obtain ⟨u, h1, h2⟩ := hcell i x hx
    have e : u = 9 := by
      have : some u = some 9 := h1.symm.trans h4
      simpa using this
    subst e
    obtain ⟨b, rfl⟩ := cell_str Tryz.underlying9 h2
    exact ⟨b, hx⟩
  obtain ⟨a0, e0⟩ := cb 0 (by omega) rfl
  obtain ⟨a1, e1⟩ := cst 1 (by omega) rfl
  obtain ⟨a2, e2⟩ := cst 2 (by omega) rfl
  obtain ⟨a3, e3⟩ := cb 3 (by omega) rfl
  obtain ⟨a4, e4⟩ := cst 4 (by omega) rfl
  obtain ⟨a5, e5⟩ := cst 5 (by omega) rfl
  obtain ⟨a6, e6⟩ := cb 6 (by omega) rfl
  obtain ⟨a7, e7⟩ := cst 7 (by omega) rfl
  obtain ⟨a8, e8⟩ := cst 8 (by omega) rfl
  obtain ⟨a9, e9⟩ := cb 9 (by omega) rfl
  obtain ⟨a10, e10⟩ := cst 10 (by omega) rfl
  obtain ⟨a11, e11⟩ := cst 11 (by omega) rfl
  have hcs : cs = #[.bool a0, .string a1, .string a2, .bool a3, .string a4, .string a5, .bool a6, .string a7, .string a8, .bool a9, .string a10, .string a11] := by
    apply Array.ext_getElem?
    intro i
    rcases Nat.lt_or_ge i 12 with hi | hi
    · match i, hi with
      | 0, _ => exact e0
      | 1, _ => exact e1
      | 2, _ => exact e2
      | 3, _ => exact e3
      | 4, _ => exact e4
      | 5, _ => exact e5
      | 6, _ => exact e6
      | 7, _ => exact e7
      | 8, _ => exact e8
      | 9, _ => exact e9
      | 10, _ => exact e10
      | 11, _ => exact e11
      | n + 12, h => omega
    · rw [Array.getElem?_eq_none (by omega), Array.getElem?_eq_none (by simpa using hi)]
  subst hcs
  refine ⟨⟨a0, a1, a2⟩, ⟨a3, a4, a5⟩, ⟨a6, a7, a8⟩, ⟨a9, a10, a11⟩, fun W' ok => ?_⟩
  refine .a (us := [.bool a0, .string a1, .string a2, .bool a3, .string a4, .string a5, .bool a6, .string a7, .string a8, .bool a9, .string a10, .string a11]) rfl (fun i c u hc hu => ?_) (fun i u hu => ?_)
  · have hx : c = .v u ∧ scal u = true := by
      match i with
      | 0 => simp at hc hu; subst hc; subst hu; exact ⟨rfl, rfl⟩
      | 1 => simp at hc hu; subst hc; subst hu; exact ⟨rfl, rfl⟩
      | 2 => simp at hc hu; subst hc; subst hu; exact ⟨rfl, rfl⟩
      | 3 => simp at hc hu; subst hc; subst hu; exact ⟨rfl, rfl⟩
      | 4 => simp at hc hu; subst hc; subst hu; exact ⟨rfl, rfl⟩
      | 5 => simp at hc hu; subst hc; subst hu; exact ⟨rfl, rfl⟩
      | 6 => simp at hc hu; subst hc; subst hu; exact ⟨rfl, rfl⟩
      | 7 => simp at hc hu; subst hc; subst hu; exact ⟨rfl, rfl⟩
      | 8 => simp at hc hu; subst hc; subst hu; exact ⟨rfl, rfl⟩
      | 9 => simp at hc hu; subst hc; subst hu; exact ⟨rfl, rfl⟩
      | 10 => simp at hc hu; subst hc; subst hu; exact ⟨rfl, rfl⟩
      | 11 => simp at hc hu; subst hc; subst hu; exact ⟨rfl, rfl⟩
      | n + 12 => simp at hc
    rw [hx.1]; exact .v hx.2
  · match i with
    | 0 => simp at hu; subst hu; rfl
    | 1 => simp at hu; subst hu; rfl
    | 2 => simp at hu; subst hu; rfl
    | 3 => simp at hu; subst hu; rfl
    | 4 => simp at hu; subst hu; rfl
    | 5 => simp at hu; subst hu; rfl
    | 6 => simp at hu; subst hu; rfl
    | 7 => simp at hu; subst hu; rfl
    | 8 => simp at hu; subst hu; rfl
    | 9 => simp at hu; subst hu; rfl
    | 10 => simp at hu; subst hu; rfl
    | 11 => simp at hu; subst hu; rfl
    | n + 12 => simp at hu
theorem post_below {H : Type} {enc : TypeId × Value → H} {P : Program} {f : Func} {s : ChangeSpec} {apart fresh handsOn again : Bool} {W W' : World} {args : Array Value} {v : Value} {ds gs : List (DataW H)} {before pa pv : List MemPlace}
    (hW : DataW.Whole enc P f.params.toList s.vars apart W args.toList ds gs before) (hps : before = pa ++ pv) (hb : Below W.heap.size W W')
    (hres : ∀ (b : Nat) (sp : Nat → Bool) (hd : Bool), DataW.TrodAll enc P W' b sp hd f.resultTypes.toList (v.resultList f.resultTypes.size) (s.fn H (ds ++ gs)).results [])
    (hargs : ∀ sp : Nat → Bool, (∀ p ∈ before, sp p.block = true) → DataW.TrodAll enc P W' 0 sp true f.params.toList args.toList (s.fn H (ds ++ gs)).args pa)
    (hvars : ∀ sp : Nat → Bool, (∀ p ∈ before, sp p.block = true) → DataW.TrodVars enc P W' sp s.vars (s.fn H (ds ++ gs)).vars pv)
    (hok : ∀ (j : Nat) (t : TypeId) (r : Value), f.resultTypes[j]? = some t → (v.resultList f.resultTypes.size)[j]? = some r → Value.okWide P W' .any 0 t r) :
    s.post enc P f apart fresh handsOn again W args v W' := by
  have old : ∀ p ∈ before, decide (p.block < W.heap.size) = true := fun p hp => decide_eq_true (hW.lt p hp)
  have hW2 := hW
  obtain ⟨_, _, _, _, hb2, hz, hn⟩ := hW2
  refine ⟨ds, gs, before, [], pa, pv, hW, hres _ _ _, hargs _ old, hvars _ old, World.keptBut_mono (fun p hp => ⟨hp, by rw [hps, List.mem_append] at hp; exact .inr hp⟩) (hb.frame _), fun _ => ⟨hok, _, _, ([] ++ pa) ++ pv, ⟨[] ++ pa, pv, trodAll_append (hargs _ fun _ _ => rfl) (hres _ _ _), hvars _ fun _ _ => rfl, rfl, fun b off hp => ?_, fun ha => ?_⟩, fun p hp _ => ?_⟩⟩
  · have hm : MemPlace.cell b off ∈ before := by rw [hps]; simpa using hp
    rw [hb.frozen (p := ⟨b, off, none⟩) (hW.lt _ hm)]
    exact hz b off hm
  · have := hn ha
    rw [hps] at this
    simpa using this
  · rw [hps]; simpa using hp
theorem tryz_own : ownKnob Tryz.prog.godebug = none := by kernel_rfl
theorem tryz_laid : laidOutB Tryz.prog = true := by kernel_rfl
end Go.Nv
end
