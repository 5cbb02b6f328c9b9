import Derived.Test.YtdjbkccoofcnjaaGreatNvD6
set_option linter.all false
set_option linter.unusedVariables false
set_option linter.unusedSimpArgs false
section
namespace Go.Nv
open Go.Proofs Nw
set_option maxRecDepth 100000
set_option linter.unusedVariables false
set_option linter.unusedSimpArgs false
abbrev bL (l : List Bool) : List D := l.map fun b => .v (.bool b)
noncomputable def ebSt (x0 y0 x1 y1 : Rat) (c r : Int) (f : FuncId) (cap : List D) (g : Nat → Bool) (i : Nat) : St :=
  ⟨fr 27 [(0, .own 3 0), (1, .d (.p 0 (grD x0 y0 x1 y1 c r).cells)), (8, .d (i64 (c * r))), (9, .d (i64 i))],
   [.dead, .box 58 [.own 2 0], .row 0 4 1 1 (bL ((List.range i).map g)),
    .loop .ready none #[10, 11] (rfO Tryz.f90.body).1 (rfO Tryz.f90.body).2 (fr 19 [(3, .d (.p 0 [.f f cap])), (5, .ptr 1 0 0)])]⟩
end Go.Nv
end
section
namespace Go.Nv
open Go.Proofs Nw
set_option maxRecDepth 100000
set_option linter.unusedVariables false
set_option linter.unusedSimpArgs false
end Go.Nv
end
section
namespace Go.Nv
open Go.Proofs Nw
set_option maxRecDepth 100000
set_option linter.unusedVariables false
set_option linter.unusedSimpArgs false
section
variable {x0 y0 x1 y1 : Rat}
end
end Go.Nv
end
section
namespace Go.Nv
open Go.Proofs Nw
set_option maxRecDepth 100000
set_option linter.unusedVariables false
set_option linter.unusedSimpArgs false
@[irreducible] def sBd : Nat := 200000000
end Go.Nv
end
section
namespace Go.Nv
open Go.Proofs Nw
set_option maxRecDepth 100000
set_option linter.unusedVariables false
set_option linter.unusedSimpArgs false
theorem gtP_ok {p : RD × RD} (h : gtP p = false) : BP 12 (vP p) ∧ SzP p := by
  unfold gtP at h
  rw [Bool.or_eq_false_iff] at h
  exact ⟨⟨gtR_bd h.1, gtR_bd h.2⟩, gtR_sz h.1, gtR_sz h.2⟩
theorem g22_ok {o : List (RD × RD)} {hs : List (List (RD × RD))} (h : g22 o hs = false) : PgOk o hs 12 := by
  unfold g22 at h
  rw [Bool.or_eq_false_iff] at h
  have g := g11_f h.1
  exact ⟨by have := g.lo; omega, by have := g.lh; omega, fun p hp => gtP_ok (g.ob p hp), fun x hx p hp => gtP_ok (g.hb x hx p hp), fun x hx => by have := g.hl x hx; omega⟩
end Go.Nv
end
