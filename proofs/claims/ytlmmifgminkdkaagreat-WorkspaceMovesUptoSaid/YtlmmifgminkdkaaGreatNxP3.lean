import Derived.Test.YtlmmifgminkdkaaGreatNxP2
set_option linter.all false
set_option maxRecDepth 100000
section
namespace Nw
structure Aside (a b:List P2):Prop where
 ap:Apart a b
 l: ∃p∈b,wn a p=0
 r: ∃p∈a,wn b p=0
structure Plg (o:List P2) (hs:List (List P2)):Prop where
 so:qeK o
 ao:0<tot ar o
 sh: ∀h∈hs,qeK h
 ah: ∀h∈hs,0<tot ar h
 ins: ∀h∈hs,Apart o h/\ ∃p∈h,wn o p≠0
 sid:hs.Pairwise Aside
theorem qeK.wn01{l:List P2}(h:qeK l)(ha:0<tot ar l){q:P2}(hq:qlx l q):wn l q=0\/wn l q=1:=by
 have:=h.lvl_pos ha
 rcases h.sides hq with e|e
 ·right;omega
 ·left;omega
end Nw
end
