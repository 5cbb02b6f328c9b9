import Derived.Test.YtdjbkccoofcnjaaGreatNvD15
import Derived.Test.YtdjbkccoofcnjaaGreatNvD5
import Derived.Test.YtdjbkccoofcnjaaGreatNvD4
set_option linter.all false
set_option maxRecDepth 100000
section
namespace Go.Nv
open Go.Proofs Nw
def Ord(hs:List (List P2)):Prop:= ∀i,i+1<hs.length→cmP (ix (hs.getD i []) 0) (ix (hs.getD (i+1) []) 0)<0
def trH(v:P2)(hs:List (List P2)):List (List P2):=hs.map (trL v)
end Go.Nv
end
section
namespace Go.Nv
open Go.Proofs Nw
section
variable {x0 y0 x1 y1:Rat}
end
end Go.Nv
end
section
namespace Go.Nv
open Go.Proofs Nw
theorem gtP_ok{p:RD×RD}(h:gtP p=false):BP 12 (vP p)∧SzP p:=by
 unfold gtP at h
 rw [Bool.or_eq_false_iff] at h
 exact ⟨⟨gtR_bd h.1,gtR_bd h.2⟩,gtR_sz h.1,gtR_sz h.2⟩
theorem g22_ok{o:List (RD×RD)}{hs:List (List (RD×RD))}(h:g22 o hs=false):PgOk o hs 12:=by
 unfold g22 at h
 rw [Bool.or_eq_false_iff] at h
 have g:=g11_f h.1
 exact ⟨by have:=g.lo;omega,by have:=g.lh;omega,fun p hp=>gtP_ok (g.ob p hp),fun x hx p hp=>gtP_ok (g.hb x hx p hp),fun x hx=>by have:=g.hl x hx;omega⟩
end Go.Nv
end
