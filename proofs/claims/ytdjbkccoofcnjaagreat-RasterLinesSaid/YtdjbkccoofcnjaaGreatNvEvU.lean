import Derived.Test.YtdjbkccoofcnjaaGreatNvEvT
import Derived.Test.YtdjbkccoofcnjaaGreatNvE1
set_option linter.all false
set_option maxRecDepth 100000
section
namespace Go.Nv
open Go.Proofs Nw Go.RowKit
theorem run0(hsl:Sl3Ok ev0){n:Nat}{g:FuncId}{ds res:List D}(h:evF ev0 (evC ev0 n) g ds=some res):Fun Tryz.prog g ds (mapX (nlD 8) res):=
 evF_sound (E:=ev0) mixed tOk (fun g fn h=>by rw [←Array.getElem?_toList, ←lkO_eq];exact h) (fun g ds res h=>orc_sound h) (fun mu c st K r h=>(evC_sound (E:=ev0) hsl mixed tOk (fun g fn h=>by rw [←Array.getElem?_toList, ←lkO_eq];exact h) (fun g ds res h=>orc_sound h) n mu c st K r h).1) h
abbrev triD:D:= .a [.l [ptD 0 0,ptD 4 0,ptD 0 4],.l []]
end Go.Nv
end
