import Derived.Test.YtdjbkccoofcnjaaGreatNvC7
import Derived.Test.YtdjbkccoofcnjaaGreatNvN5
import Derived.Test.YtdjbkccoofcnjaaGreatNvN6
set_option linter.all false
set_option linter.unusedVariables false
set_option linter.unusedSimpArgs false
section
namespace Go.Nv
open Go.Proofs Nw
set_option maxRecDepth 100000
set_option linter.unusedVariables false
set_option linter.unusedSimpArgs false
theorem len64_small (x : Nat) (hx : x < 256) : Fun Tryz.prog 273 [u64 x] [i64 (blen x)] := by
  have hl := blen_le (x := x) (k := 8) hx
  refine fun_of_go (fun t => false) mixed tOk Tryz.func273 rfl rfl ?_
  conv => whnf
  refine cond_df (by omega) ?_
  conv => whnf
  refine cond_df (by omega) ?_
  conv => whnf
  refine cond_df (by omega) ?_
  conv => whnf
  have e8 : (x : Int) % 256 = x := by omega
  refine sd_d (by rw [e8]; refine ⟨by omega, ?_⟩; show _ < ((256 : Nat) : Int); omega) ?_
  conv => whnf
  rw [e8, tab_get (i := x) (by kernel_rfl) rfl hx]
  refine sd_d (by omega) ?_
  conv => whnf
  refine sd_d (by omega) ?_
  conv => whnf
  refine ⟨?_, trivial⟩
  conv => whnf
  omega
theorem len_small (x : Nat) (hx : x < 256) : Fun Tryz.prog 189 [u64 x] [i64 (blen x)] := by
  refine fun_of_go (fun t => false) mixed tOk Tryz.func189 rfl rfl ?_
  conv => whnf
  refine call_data rfl rfl (len64_small x hx) ?_
  conv => whnf
  refine ⟨?_, trivial⟩
  conv => whnf
abbrev quR (a b c d : RD) : D := .a [.v (.bool a.neg), .v (.string a.num), .v (.string a.den), .v (.bool b.neg), .v (.string b.num), .v (.string b.den),
  .v (.bool c.neg), .v (.string c.num), .v (.string c.den), .v (.bool d.neg), .v (.string d.num), .v (.string d.den)]
@[irreducible] def vbB (a b c d : RD) : Bool := decide (okP a b = 0 ∧ okP c d = 0 ∧ a.val < c.val ∧ b.val < d.val)
theorem cmpI_neg {p q : Rat} : cmpI p q < 0 ↔ p < q := by
  rw [cmpI_eq]; unfold cmpQ; split <;> (try split) <;> simp_all
end Go.Nv
end
section
namespace Go.Nv
open Go.Proofs Nw
set_option maxRecDepth 100000
set_option linter.unusedVariables false
set_option linter.unusedSimpArgs false
abbrev blD (x0 y0 x1 y1 : Rat) : D := .a [.v (.bool (rneg x0)), .v (.string (rnum x0)), .v (.string (rden x0)), .v (.bool (rneg y0)), .v (.string (rnum y0)), .v (.string (rden y0)),
  .v (.bool (rneg x1)), .v (.string (rnum x1)), .v (.string (rden x1)), .v (.bool (rneg y1)), .v (.string (rnum y1)), .v (.string (rden y1)), .l []]
abbrev slD (x0 y0 x1 y1 : Rat) : D := .a [.v (.bool (rneg x0)), .v (.string (rnum x0)), .v (.string (rden x0)), .v (.bool (rneg y0)), .v (.string (rnum y0)), .v (.string (rden y0)),
  .v (.bool (rneg x1)), .v (.string (rnum x1)), .v (.string (rden x1)), .v (.bool (rneg y1)), .v (.string (rnum y1)), .v (.string (rden y1)), .l [],
  .l [ratD x0, ratD x1], .l [.l [ratD y0, ratD y1], .l [ratD y0, ratD y1]], .l [.l []]]
end Go.Nv
end
section
namespace Go.Nv
open Go.Proofs Nw
set_option maxRecDepth 100000
set_option linter.unusedVariables false
set_option linter.unusedSimpArgs false
abbrev grD (x y u v : Rat) (c r : Int) : D := .a [.v (.bool (rneg x)), .v (.string (rnum x)), .v (.string (rden x)), .v (.bool (rneg y)), .v (.string (rnum y)), .v (.string (rden y)),
  .v (.bool (rneg u)), .v (.string (rnum u)), .v (.string (rden u)), .v (.bool (rneg v)), .v (.string (rnum v)), .v (.string (rden v)), i64 c, i64 r]
abbrev grR (a b c d : RD) (m n : Int) : D := .a [.v (.bool a.neg), .v (.string a.num), .v (.string a.den), .v (.bool b.neg), .v (.string b.num), .v (.string b.den),
  .v (.bool c.neg), .v (.string c.num), .v (.string c.den), .v (.bool d.neg), .v (.string d.num), .v (.string d.den), i64 m, i64 n]
def pxX (x0 x1 : Rat) (c i : Int) : Rat := x0 + Rat.divInt i c * (x1 - x0)
def pxY (y0 y1 : Rat) (r i : Int) : Rat := y1 + Rat.divInt i r * (y0 - y1)
@[irreducible] def gcE (c r : Int) : Int := if c < 1 ∨ c > 128 ∨ r < 1 ∨ r > 128 then 2 else 0
end Go.Nv
end
section
namespace Go.Nv
open Go.Proofs Nw
set_option maxRecDepth 100000
set_option linter.unusedVariables false
set_option linter.unusedSimpArgs false
theorem vcheck_q {x y : Rat} (hx : Q x) (hy : Q y) : Fun Tryz.prog 49 [ptD x y] [i64 0] := by
  have h := vcheck_c (canon x) (canon y) hx.sz hy.sz
  rw [okP_zero.2 ⟨by rw [val_canon], by rw [val_canon]⟩] at h
  have e : ptD x y = ptR (canon x) (canon y) := by unfold ptD ptR rneg rnum rden; rfl
  rw [e]; exact h
def tcB (x0 y0 x1 y1 : Rat) (c r : Int) (xa ya xb yb : Rat) (i : Nat) : Bool :=
  clB (pxX x0 x1 c (Int.tmod i c)) (pxY y0 y1 r (Int.tdiv i c + 1)) (pxX x0 x1 c (Int.tmod i c + 1)) (pxY y0 y1 r (Int.tdiv i c)) xa ya xb yb
def tlD (x0 y0 x1 y1 : Rat) (c r : Int) (xa ya xb yb : Rat) (n : Nat) : List D := ((List.range n).filter (tcB x0 y0 x1 y1 c r xa ya xb yb)).map fun i : Nat => i64 (i : Int)
def rngs : Code → List (Code × Code)
  | .seq a b => rngs a ++ rngs b
  | .block _ b => rngs b
  | .rangeFunc _ _ a b => [(a, b)]
  | _ => []
noncomputable def rf20 : Code × Code := match Tryz.f20.body with
  | some c => match rngs c with
    | p :: _ => p
    | [] => (.skip, .skip)
  | none => (.skip, .skip)
noncomputable def tchSt (x0 y0 x1 y1 xa ya xb yb : Rat) (c r : Int) (i : Nat) : St :=
  ⟨fr 27 [(0, .own 4 0), (1, .d (.p 0 (grD x0 y0 x1 y1 c r).cells)), (8, .d (i64 (c * r))), (9, .d (i64 i))],
   [.dead, .dead, .box 47 [.own 3 0], .row 0 3 1 8 (tlD x0 y0 x1 y1 c r xa ya xb yb i),
    .loop .ready none #[44, 45] rf20.1 rf20.2 (fr 59 [(4, .d (.p 0 (quD xa ya xb yb).cells)), (9, .d (i64 0)), (12, .ptr 2 0 0)])]⟩
end Go.Nv
end
section
namespace Go.Nv
open Go.Proofs Nw
set_option maxRecDepth 100000
set_option linter.unusedVariables false
set_option linter.unusedSimpArgs false
end Go.Nv
end
