import Derived.Test.YtdjbkccoofcnjaaGreatNvC8
set_option linter.all false
set_option linter.unusedVariables false
set_option linter.unusedSimpArgs false
section
namespace Go.Nv
open Go.Proofs Nw
set_option maxRecDepth 100000
set_option linter.unusedVariables false
set_option linter.unusedSimpArgs false
end Go.Nv
end
section
namespace Go.Nv
open Go.Proofs Nw
set_option maxRecDepth 100000
set_option linter.unusedVariables false
set_option linter.unusedSimpArgs false
abbrev nilD : D := .v (.slice none 0 0)
def gtR (r : RD) : Bool := decide (12 < r.num.size) || decide (12 < r.den.size)
def gtP (p : RD × RD) : Bool := gtR p.1 || gtR p.2
theorem great7 (ps : List (RD × RD)) (hl : ps.length < 1000) : Fun Tryz.prog 39 [.l (ps.map fun p => ptR p.1 p.2)] [.v (.bool (ps.any gtP))] := by
  have hll : (ps.map fun p => ptR p.1 p.2).length = ps.length := by simp
  have hu : Uni 6 (ps.map fun p => ptR p.1 p.2) := by
    intro x hx
    obtain ⟨p, _, rfl⟩ := List.mem_map.1 hx
    rfl
  refine fun_of_go (fun t => false) mixed tOk Tryz.func39 rfl rfl ?_
  conv => whnf
  refine loop_intro (fun t => false) (fun i : Nat => ⟨fr 48 [(0, .d (.l (ps.map fun p => ptR p.1 p.2))), (3, .d (i64 i))], []⟩) (fun i => i ≤ ps.length ∧ (ps.take i).any gtP = false) (fun i => ps.length - i) 0 mixed tOk ⟨by omega, rfl⟩ ?_ ?_
  · refine weak_r ?_ ?_ <;> repeat' (first | exact trivial | exact rfl | refine And.intro ?_ ?_)
  · rintro i ⟨hi, hno⟩
    conv => whnf
    refine cond_d (fun hlt => ?_) (fun hge => ?_)
    · have hlt' : i < ps.length := by omega
      have hg : (ps.map fun p => ptR p.1 p.2)[(i : Int).toNat]? = some (ptR ps[i].1 ps[i].2) := by simp [hlt']
      have yes : gtP ps[i] = true → ps.any gtP = true := fun h => List.any_eq_true.2 ⟨ps[i], List.getElem_mem _, h⟩
      conv => whnf
      refine idx_intro (ptR ps[i].1 ps[i].2) hg (by omega) hu ?_
      conv => whnf
      refine cond_d (fun k1 => ?_) (fun k1 => ?_)
      · rw [yes (by unfold gtP gtR; simp; omega)]
        conv => whnf
        exact ⟨rfl, trivial⟩
      conv => whnf
      refine idx_intro (ptR ps[i].1 ps[i].2) hg (by omega) hu ?_
      conv => whnf
      refine cond_d (fun k2 => ?_) (fun k2 => ?_)
      · rw [yes (by unfold gtP gtR; simp; omega)]
        conv => whnf
        exact ⟨rfl, trivial⟩
      conv => whnf
      refine idx_intro (ptR ps[i].1 ps[i].2) hg (by omega) hu ?_
      conv => whnf
      refine cond_d (fun k3 => ?_) (fun k3 => ?_)
      · rw [yes (by unfold gtP gtR; simp; omega)]
        conv => whnf
        exact ⟨rfl, trivial⟩
      conv => whnf
      refine idx_intro (ptR ps[i].1 ps[i].2) hg (by omega) hu ?_
      conv => whnf
      refine cond_d (fun k4 => ?_) (fun k4 => ?_)
      · rw [yes (by unfold gtP gtR; simp; omega)]
        conv => whnf
        exact ⟨rfl, trivial⟩
      conv => whnf
      refine sd_d (by omega) ?_
      conv => whnf
      refine ⟨i + 1, ⟨by omega, ?_⟩, by omega, ?_⟩
      · rw [List.take_succ_eq_append_getElem hlt', List.any_append, hno]
        unfold gtP gtR
        simp
        omega
      rw [Int.natCast_succ]
      refine weak_r ?_ ?_ <;> repeat' (first | exact trivial | exact rfl | refine And.intro ?_ ?_)
    · have : i = ps.length := by omega
      subst this
      rw [List.take_length] at hno
      rw [hno]
      conv => whnf
      exact ⟨rfl, trivial⟩
abbrev wk0 : D := .a [.l [], .l []]
def gtT (ps : List (RD × RD)) (c r : Int) : Bool := ps.any gtP || decide (1 ≤ c ∧ c ≤ 128 ∧ 1 ≤ r ∧ r ≤ 128 ∧ 36 < c * r)
end Go.Nv
end
section
namespace Go.Nv
open Go.Proofs Nw
set_option maxRecDepth 100000
set_option linter.unusedVariables false
set_option linter.unusedSimpArgs false
def l5St (x0 y0 x1 y1 xa ya xb yb : Rat) (c r : Int) (N i : Nat) : St :=
  ⟨fr 183 [(2, .d (i64 c)), (3, .d (i64 r)), (4, .d (.p 0 (quD xa ya xb yb).cells)), (5, .d (.p 0 (quD x0 y0 x1 y1).cells)), (9, .d (.l (tlD x0 y0 x1 y1 c r xa ya xb yb N))), (11, .own 0 0), (60, .d (i64 (c * r))), (61, .d (i64 i))],
   [.row 0 3 1 8 (tlD x0 y0 x1 y1 c r xa ya xb yb i)]⟩
end Go.Nv
end
section
namespace Go.Nv
open Go.Proofs Nw
set_option maxRecDepth 100000
set_option linter.unusedVariables false
set_option linter.unusedSimpArgs false
theorem bd_dv {s : ByteArray} (h : s.size ≤ 12) : bv s ≤ 256 ^ 12 := Nat.le_trans (Nat.le_of_lt (bvl_lt _)) (Nat.pow_le_pow_right (by omega) h)
theorem gtR_bd {r : RD} (h : gtR r = false) : Bd 12 r.val := by
  unfold gtR at h
  simp at h
  refine mkRat_bd (dv_ne _) ?_ ?_
  · show (sg r.neg (bv r.num)).natAbs ≤ _
    rw [sg_abs]; exact bd_dv h.1
  · have := bd_dv h.2
    unfold dv
    split <;> omega
theorem gtR_sz {r : RD} (h : gtR r = false) : Sz r := by
  unfold gtR at h
  simp at h
  exact ⟨by omega, by omega⟩
end Go.Nv
end
