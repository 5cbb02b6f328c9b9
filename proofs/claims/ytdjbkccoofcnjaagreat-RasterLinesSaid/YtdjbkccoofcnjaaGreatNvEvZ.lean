import Derived.Test.YtdjbkccoofcnjaaGreatNvEvY
import Derived.Test.YtdjbkccoofcnjaaGreatNvEvV
set_option linter.all false
set_option maxRecDepth 100000
section
namespace Go.Nv
open Go.Proofs Nw Go.RowKit
theorem runK{E:Ev}{kn:List (FuncId×List D×List D)}(hP:E.P=Tryz.prog)(hTb:E.T=tbl)(hf:E.fns=Tryz.prog.funcs.toList)(ho:E.orc=orcK kn)(hsl:Sl3Ok E)(hk: ∀k∈kn,Fun Tryz.prog k.1 k.2.1 k.2.2){n:Nat}{g:FuncId}{ds res:List D}(h:evF E (evC E n) g ds=some res):Fun Tryz.prog g ds (mapX (nlD 8) res):=by
 have hm:E.P.follows .mixedOrders=true:=by rw [hP];exact mixed
 have hT:TbOk E.P E.T:=by rw [hP,hTb];exact tOk
 have hfn: ∀g fn,lkO E.fns g=some fn→E.P.funcs[g]? =some fn:=fun g fn h=>by rw [hf] at h;rw [hP, ←Array.getElem?_toList, ←lkO_eq];exact h
 have horc: ∀g ds res,E.orc g ds=some res→Fun E.P g ds res:=fun g ds res h=>by rw [ho] at h;rw [hP];exact orcK_sound hk h
 rw [←hP]
 exact evF_sound hm hT hfn horc (fun mu c st K r h=>(evC_sound hsl hm hT hfn horc n mu c st K r h).1) h
theorem awake_c(h0:Sl3Ok ev0)(h1:Sl3Ok ev1)(h2:Sl3Ok ev2):Fun Tryz.prog 12 [] [.v (.bool true)] :=by
 have f48:Fun Tryz.prog 48 [triD] [i64 0] :=run0 h0 tri_ok
 have w0:Fun Tryz.prog 58 [ptsD,quD 0 2 2 4] [ratD 2] :=run0 h0 win0
 have w1:Fun Tryz.prog 58 [ptsD,quD 2 2 4 4] [ratD 0] :=run0 h0 win1
 have w2:Fun Tryz.prog 58 [ptsD,quD 0 0 2 2] [ratD 4] :=run0 h0 win2
 have w3:Fun Tryz.prog 58 [ptsD,quD 2 0 4 2] [ratD 2] :=run0 h0 win3
 have c13:Fun Tryz.prog 13 [triD,quD 0 0 4 4,i64 2,i64 2] [covD,i64 0] :=runK (E:=ev1) (kn:=kn1) rfl rfl rfl rfl h1 (by
  intro k hk
  unfold kn1 at hk
  simp only [List.mem_cons,List.not_mem_nil,or_false] at hk
  rcases hk with rfl|rfl|rfl|rfl|rfl<;>assumption) cov_ok
 have p43:Fun Tryz.prog 43 [covD,i64 2,i64 2] [prtD,i64 0] :=run0 h0 prt_ok
 exact runK (E:=ev2) (kn:=kn2) rfl rfl rfl rfl h2 (by
  intro k hk
  unfold kn2 at hk
  simp only [List.mem_cons,List.not_mem_nil,or_false] at hk
  rcases hk with rfl|rfl<;>assumption) awake_ok
end Go.Nv
end
