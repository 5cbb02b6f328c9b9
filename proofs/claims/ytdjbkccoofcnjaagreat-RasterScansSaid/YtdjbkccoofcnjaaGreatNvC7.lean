import Derived.Test.YtdjbkccoofcnjaaGreatNvC6
set_option linter.all false
set_option linter.unusedVariables false
set_option linter.unusedSimpArgs false
section
namespace Go.Nv
open Go.Proofs Nw
set_option maxRecDepth 100000
set_option linter.unusedVariables false
set_option linter.unusedSimpArgs false
def clStep (f t : Rat) (p : Rat × Rat) : Option (Rat × Rat) :=
  if t - f = 0 then (if f < 0 then none else some p)
  else if 0 < t - f ∧ p.1 < -f / (t - f) then some (-f / (t - f), p.2)
  else if t - f < 0 ∧ -f / (t - f) < p.2 then some (p.1, -f / (t - f))
  else some p
def sdQ (x0 y0 x1 y1 x y : Rat) : Nat → Rat
  | 0 => x - x0
  | 1 => x1 - x
  | 2 => y - y0
  | _ => y1 - y
def clTo (x0 y0 x1 y1 xa ya xb yb : Rat) : Nat → Option (Rat × Rat)
  | 0 => some (0, 1)
  | j + 1 => (clTo x0 y0 x1 y1 xa ya xb yb j).bind (clStep (sdQ x0 y0 x1 y1 xa ya j) (sdQ x0 y0 x1 y1 xb yb j))
def clSt (xa ya xb yb : Rat) (x0 y0 x1 y1 : Rat) (j : Nat) (lo hi : Rat) : St :=
  ⟨fr 117 [(2, .d (.p 0 (quD xa ya xb yb).cells)), (4, .ptr 0 0 0), (5, .d (.v (.bool false))), (6, .d (i64 0)), (7, .ptr 1 0 0), (8, .ptr 2 0 0),
    (42, .d (.a [.f 156 [.p 0 (quD x0 y0 x1 y1).cells], .f 157 [.p 0 (quD x0 y0 x1 y1).cells], .f 158 [.p 0 (quD x0 y0 x1 y1).cells], .f 159 [.p 0 (quD x0 y0 x1 y1).cells]])), (43, .d (i64 j))],
   [.box 46 [.d (.v (.bool false)), .d (.v (.string ⟨#[]⟩)), .d (.v (.string ⟨#[]⟩)), .d (.v (.bool false)), .d (.v (.string ⟨#[]⟩)), .d (.v (.string ⟨#[]⟩)),
      .d (.v (.bool false)), .d (.v (.string ⟨#[]⟩)), .d (.v (.string ⟨#[]⟩)), .d (.v (.bool false)), .d (.v (.string ⟨#[]⟩)), .d (.v (.string ⟨#[]⟩))],
    .box 27 [.d (.v (.bool (rneg lo))), .d (.v (.string (rnum lo))), .d (.v (.string (rden lo)))],
    .box 27 [.d (.v (.bool (rneg hi))), .d (.v (.string (rnum hi))), .d (.v (.string (rden hi)))]]⟩
@[irreducible] def clV (x0 y0 x1 y1 xa ya xb yb : Rat) : Rat × Rat × Rat × Rat :=
  match clTo x0 y0 x1 y1 xa ya xb yb 4 with
  | none => (0, 0, 0, 0)
  | some p => if p.2 < p.1 then (0, 0, 0, 0) else (xa + (xb - xa) * p.1, ya + (yb - ya) * p.1, xa + (xb - xa) * p.2, ya + (yb - ya) * p.2)
@[irreducible] def clB (x0 y0 x1 y1 xa ya xb yb : Rat) : Bool :=
  match clTo x0 y0 x1 y1 xa ya xb yb 4 with
  | none => false
  | some p => !decide (p.2 < p.1)
def clK (V : Rat × Rat × Rat × Rat) (b : Bool) : Ex → St → Prop := FinK tbl Tryz.f25.results.toList [quD V.1 V.2.1 V.2.2.1 V.2.2.2, .v (.bool b), i64 0]
end Go.Nv
end
