import Derived.Test.YtlmmifgminkdkaaGreatRows
import Derived.ProofKit
import Derived.Test.YtlmmifgminkdkaaGreatNxC5
set_option linter.all false
set_option maxRecDepth 100000
section
namespace Go.Nv
open Go.Proofs Nw Go.RowKit Go.ChangeAt Go.WideShapes Go.ChangeShapes
theorem qoM{H:Type}{enc:TypeId×Value->H}{P:Program}{f:Func}{s:ChangeSpec}{apart fresh handsOn again:Bool}{W W':World}{args:Array Value}{v:Value}{ds gs:List (DataW H)}{before pa pv:List MemPlace}
  (hW:DataW.Whole enc P f.params.toList s.vars apart W args.toList ds gs before) (hps:before=pa++pv) (hb:Below W.heap.size W W')
  (hres: ∀(b:Nat) (sp:Nat->Bool) (hd:Bool),DataW.TrodAll enc P W' b sp hd f.resultTypes.toList (v.resultList f.resultTypes.size) (s.fn H (ds++gs)).results [])
  (hargs: ∀sp:Nat->Bool,(∀p∈before,sp p.block=true)->DataW.TrodAll enc P W' 0 sp true f.params.toList args.toList (s.fn H (ds++gs)).args pa)
  (hvars: ∀sp:Nat->Bool,(∀p∈before,sp p.block=true)->DataW.TrodVars enc P W' sp s.vars (s.fn H (ds++gs)).vars pv)
  (hok: ∀(j:Nat) (t:TypeId) (r:Value),f.resultTypes[j]? =some t->(v.resultList f.resultTypes.size)[j]? =some r->Value.okWide P W' .any 0 t r):
  s.post enc P f apart fresh handsOn again W args v W':=by
 have old: ∀p∈before,decide (p.block<W.heap.size)=true:=fun p hp=>decide_eq_true (hW.lt p hp)
 have hW2:=hW
 obtain ⟨_,_,_,_,hb2,hz,hn⟩:=hW2
 refine ⟨ds,gs,before, [],pa,pv,hW,hres _ _ _,hargs _ old,hvars _ old,World.keptBut_mono (fun p hp=>⟨hp,by rw [hps,List.mem_append] at hp;exact .inr hp⟩) (hb.frame _),fun _=>⟨hok,_,_,([] ++pa)++pv,⟨[] ++pa,pv,trodAll_append (hargs _ fun _ _=>rfl) (hres _ _ _),hvars _ fun _ _=>rfl,rfl,fun b off hp=> ?_,fun ha=> ?_⟩,fun p hp _=> ?_⟩⟩
 ·have hm:MemPlace.cell b off∈before:=by rw [hps];simpa using hp
  rw [hb.frozen (p:=⟨b,off,none⟩) (hW.lt _ hm)]
  exact hz b off hm
 ·have:=hn ha
  rw [hps] at this
  simpa using this
 ·rw [hps];simpa using hp
theorem qst:ownKnob Tryz.prog.godebug=none:=by kernel_rfl
theorem qk8:laidOutB Tryz.prog=true:=by kernel_rfl
end Go.Nv
end
