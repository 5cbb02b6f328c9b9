import Derived.Test.YtdjbkccoofcnjaaGreatNvD5
import Derived.Test.YtdjbkccoofcnjaaGreatNvD6
set_option linter.all false
set_option linter.unusedVariables false
set_option linter.unusedSimpArgs false
section
namespace Go.Nv
open Go.Proofs Nw
set_option maxRecDepth 100000
set_option linter.unusedVariables false
set_option linter.unusedSimpArgs false
def whL : List (List P2) → P2 → Int
  | [], _ => 1
  | h :: hs, q => if 0 - inV h q ≤ 0 then 0 - inV h q else whL hs q
def whV (o : List P2) (hs : List (List P2)) (q : P2) : Int := if inV o q ≤ 0 then inV o q else whL hs q
def arS (o : List P2) (hs : List (List P2)) : Rat := hs.foldl (fun a h => a - tot crQ h / 2) (tot crQ o / 2)
def sumN (f : Nat → Rat) : Nat → Rat
  | 0 => 0
  | n + 1 => sumN f n + f n
def ppA (x0 y0 x1 y1 : Rat) (c r : Int) (o : List P2) (hs : List (List P2)) (j : Nat) : Rat :=
  pA (pxQ x0 y0 x1 y1 c r j).1.1 (pxQ x0 y0 x1 y1 c r j).1.2 (pxQ x0 y0 x1 y1 c r j).2.1 (pxQ x0 y0 x1 y1 c r j).2.2 o hs
def midP (a b : P2) : P2 := lin a b (1 / 2)
end Go.Nv
end
section
namespace Go.Nv
open Go.Proofs Nw
set_option maxRecDepth 100000
set_option linter.unusedVariables false
set_option linter.unusedSimpArgs false
theorem rings_c (o : List P2) (hs : List (List P2)) : Fun Tryz.prog 215 [.a [.l (pL o), .l (hQ hs)]] [.f 285 [.p 0 [.l (pL o), .l (hQ hs)]]] := by
  refine fun_of_go (fun t => false) mixed tOk Tryz.func215 rfl rfl ?_
  conv => whnf
  refine ⟨?_, trivial⟩
  conv => whnf
  rfl
noncomputable def whSt (o : List P2) (hs : List (List P2)) (q : P2) (i : Nat) : St :=
  ⟨fr 25 [(0, .own 1 0), (1, .d (.p 0 [.l (pL o), .l (hQ hs)])), (11, .d (.l (hQ hs))), (12, .d (i64 (hQ hs).length)), (13, .d (i64 i))],
   [.box 3 [.d (i64 0)],
    .loop .ready none #[11, 12] (rfO Tryz.f122.body).1 (rfO Tryz.f122.body).2 (fr 26 [(3, .d (.p 0 (pD q).cells)), (4, .ptr 0 0 0)])]⟩
end Go.Nv
end
