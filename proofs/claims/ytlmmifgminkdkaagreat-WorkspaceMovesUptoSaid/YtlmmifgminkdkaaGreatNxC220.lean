import Derived.Test.YtlmmifgminkdkaaGreatNxM1
import Derived.Test.YtlmmifgminkdkaaGreatNxF
set_option linter.all false
set_option maxRecDepth 100000
section
namespace Go.Nv
open Go.Proofs Nw Go.RowKit Go.ChangeAt Go.WideShapes Go.ChangeShapes
open Go.Proofs.YtlmmifgminkdkaaGreat
theorem qja(hA:Fun Tryz.prog 12 [] [.v (.bool true)])(os:Os)(started:os.Started)(H:Type)(enc:TypeId×Value->H)(F:Stop.Interp):
  ReturnsInHanded {} Tryz.checked os 5 .any ((Rows.OpenSpec.upto Rows.workspaceMovesSpec).pre6 enc Tryz.prog Tryz.f5 Rows.workspaceMovesUptoRow.domain false) (((Rows.OpenSpec.upto Rows.workspaceMovesSpec).at F).post enc Tryz.prog Tryz.f5 false true false false):=by
 refine returnsInHanded_of_cond (C:=Tryz.checked) (k:=Rows.uptoSmall) rfl qst started (by kernel_rfl) Tryz.func5
  (OpenSpec.witness (enc:=enc) (C:=Tryz.checked) rfl false ⟨#[], #[.agg #[.bool false,.string ⟨#[]⟩,.string ⟨#[]⟩,.bool false,.string ⟨#[]⟩,.string ⟨#[]⟩,.bool false,.string ⟨#[]⟩,.string ⟨#[]⟩,.bool false,.string ⟨#[]⟩,.string ⟨#[]⟩,.slice none 0 0],
   .agg #[.bool false,.string ⟨#[]⟩,.string ⟨#[]⟩,.bool false,.string ⟨#[]⟩,.string ⟨#[]⟩]], []⟩ 8 (by kernel_rfl) (by kernel_rfl) (by kernel_rfl) (Option.some_get (by kernel_rfl)).symm (by kernel_rfl) (by kernel_rfl)) ?_
 intro W base args ds gs before hval0 hW hcnd hsm0 _
 have hval: ∀(j:Nat) t v,Tryz.f5.params[j]? =some t->args[j]? =some v->Value.okWide Tryz.prog W .any base t v:=hval0
 have hsm:Rows.uptoBulkAll (ds++gs)<=1048576:=of_decide_eq_true hsm0
 have hW':=hW
 obtain ⟨p,q,hA0,hV,rfl,hfz,hnd⟩:=hW
 have hAr:DataW.TrodAll enc Tryz.prog W 0 (fun _=>true) true Tryz.f5.params.toList args.toList ds p:=hA0
 rw [Tryz.params5] at hAr hval
 obtain ⟨v0,vs,d0,ds1,p0,q0,hargs,rfl,rfl,h0,hrest⟩:=trodAll_cons hAr
 obtain ⟨v1,vs',d1,ds2,p1,q1,rfl,rfl,rfl,h1,hrest'⟩:=trodAll_cons hrest
 obtain ⟨rfl,rfl,rfl⟩:=trodAll_nil hrest'
 obtain rfl:args= #[v0,v1] :=by cases args;simp_all
 obtain ⟨rfl,rfl⟩:=trodVars_none hV
 clear hA0 hval0
 have hsz:Rows.uptoBulk d0<=1048576/\Rows.uptoBulk d1<=1048576:=by
  simp only [List.append_nil,Rows.uptoBulkAll] at hsm
  omega
 have ag: ∀{t:TypeId} {v:Value} {fs:Array Field},Tryz.prog.underlying t=some (.struct fs)->Value.okWide Tryz.prog W .any base t v-> ∃us,v= .agg us:=fun hu hv=>by
  unfold Value.okWide at hv
  rw [hu] at hv
  obtain ⟨cs,rfl,_⟩:=hv
  exact ⟨_,rfl⟩
 obtain ⟨f0,g0⟩:=h0
 obtain ⟨w,c0,k0,k1⟩:=qF3 g0
 have e0:=qrx (ag Tryz.underlying30 (hval 0 30 v0 rfl rfl)) c0
 obtain ⟨f1,g1⟩:=h1
 obtain ⟨a,c1,k2⟩:=qBx g1
 have e1:=qrx (ag Tryz.underlying25 (hval 1 25 v1 rfl rfl)) c1
 simp only at k0 k1 k2
 have lim:qE4 w:=⟨by omega,fun x hx=>by
  have:=k1 x hx
  exact ⟨by have:=this.1;show x.o.length<_;omega,by have:=this.2.1;show x.hs.length<_;omega,fun y hy=>by have:=this.2.2 y hy;omega⟩⟩
 have sz: ∀{n:Nat} {r:RD},RzB n r->n<=1048576->Sz r:=fun h hn=>⟨by have:=h.1;omega,by have:=h.2;omega⟩
 have hd:qaO W (fun _=>True) [wsD w,ptR a.1 a.2] [v0,v1] := .cons e0 (.cons e1 (.nil _ _))
 refine ((qFs hA w lim a.1 a.2 (sz k2.1 hsz.2) (sz k2.2 hsz.2)).2 W _ _ hd).mono fun e W' hr=> ?_
 obtain ⟨v,rfl,hv,hb⟩:=hr
 obtain rfl:v= .bool true:=by cases hv;rfl
 have hlt: ∀x∈p0++p1,x.block<W.heap.size:=fun x hx=>hW'.lt x (by simpa using hx)
 refine ⟨_,rfl,qoM (s:=(Rows.OpenSpec.upto Rows.workspaceMovesSpec).at F) (pa:=p0++p1) (pv:= []) hW' (by simp) hb (fun _ _ _=>trodAll_mk1 (shut_bool Tryz.underlying4 _)) (fun sp hsp=> ?_) (fun _ _=>rfl) (ok_one (by kernel_rfl) rfl (okWide_bool_mk Tryz.underlying4 _))⟩
 have st: ∀{t:TypeId} {v:Value} {d:DataW H} {ps:List MemPlace},Tryz.prog.readableRec t=true->t<Tryz.prog.types.size->DataW.Trod enc Tryz.prog W 0 (fun _=>true) true t v d ps->(∀x∈ps,x∈p0++p1)->DataW.Trod enc Tryz.prog W' 0 sp true t v d ps:=
  fun hr hrow h hin=>WideElems.Trod_stays qk8 hr hrow h (fun x hx=>hb.same (hlt x (hin x hx))) (fun x hx=>hsp x (by simpa using hin x hx))
 rw [Tryz.params5]
 have b0:DataW.Trod enc Tryz.prog W' 0 sp true 30 v0 d0 p0:=st (by kernel_rfl) (of_decide_eq_true (by kernel_rfl)) ⟨f0,g0⟩ (fun x hx=>by simp [hx])
 have b1:DataW.Trod enc Tryz.prog W' 0 sp true 25 v1 d1 p1:=st (by kernel_rfl) (of_decide_eq_true (by kernel_rfl)) ⟨f1,g1⟩ (fun x hx=>by simp [hx])
 exact ⟨p0,p1,b0,trodAll_mk1 b1,rfl⟩
end Go.Nv
end
