import Derived.Test.YtlmmifgminkdkaaGreatNvF
set_option linter.all false
set_option maxRecDepth 100000
section
namespace Go.Nv
open Go.Proofs Nw Go.RowKit Go.ChangeAt Go.WideShapes Go.ChangeShapes
open Go.Proofs.YtlmmifgminkdkaaGreat
theorem qwp{W:World}{b0:Nat}{t:TypeId}{v:Value}(ht:Tryz.prog.underlying t=some (.int .u8))(h:Value.okWide Tryz.prog W .any b0 t v): ∃n:Nat,n<256/\v= .int .u8 (n:Int):=by
 unfold Value.okWide Cell.okWide Cell.ok at h
 rw [ht] at h
 cases v<;>simp at h
 obtain ⟨rfl,h2⟩:=h
 rename_i m
 have h3:(0:Int)<=m/\m<=255:=h2
 exact ⟨m.toNat,by omega,by rw [Int.toNat_of_nonneg h3.1]⟩
theorem qjk(hA:Fun Tryz.prog 12 [] [.v (.bool true)])(os:Os)(started:os.Started)(H:Type)(enc:TypeId×Value->H)(F:Stop.Interp):
  ReturnsInHanded {} Tryz.checked os 6 .any ((Rows.OpenSpec.upto Rows.workspaceShiftsSpec).pre6 enc Tryz.prog Tryz.f6 Rows.workspaceShiftsUptoRow.domain false) (((Rows.OpenSpec.upto Rows.workspaceShiftsSpec).at F).post enc Tryz.prog Tryz.f6 false true false false):=by
 refine returnsInHanded_of_cond (C:=Tryz.checked) (k:=Rows.uptoSmall) rfl qmJ started (by kernel_rfl) Tryz.func6
  (OpenSpec.witness (enc:=enc) (C:=Tryz.checked) rfl false ⟨#[], #[.agg #[.bool false,.string ⟨#[]⟩,.string ⟨#[]⟩,.bool false,.string ⟨#[]⟩,.string ⟨#[]⟩,.bool false,.string ⟨#[]⟩,.string ⟨#[]⟩,.bool false,.string ⟨#[]⟩,.string ⟨#[]⟩,.slice none 0 0],
   .int .u8 0,.agg #[.bool false,.string ⟨#[]⟩,.string ⟨#[]⟩,.bool false,.string ⟨#[]⟩,.string ⟨#[]⟩],.agg #[.bool false,.string ⟨#[]⟩,.string ⟨#[]⟩,.bool false,.string ⟨#[]⟩,.string ⟨#[]⟩]], []⟩ 8 (by kernel_rfl) (by kernel_rfl) (by kernel_rfl) (Option.some_get (by kernel_rfl)).symm (by kernel_rfl) (by kernel_rfl)) ?_
 intro W base args ds gs before hval0 hW hcnd hsm0 _
 have hval: ∀(j:Nat) t v,Tryz.f6.params[j]? =some t->args[j]? =some v->Value.okWide Tryz.prog W .any base t v:=hval0
 have hsm:Rows.uptoBulkAll (ds++gs)<=1048576:=of_decide_eq_true hsm0
 have hW':=hW
 obtain ⟨p,q,hA0,hV,rfl,hfz,hnd⟩:=hW
 have hAr:DataW.TrodAll enc Tryz.prog W 0 (fun _=>true) true Tryz.f6.params.toList args.toList ds p:=hA0
 rw [Tryz.params6] at hAr hval
 obtain ⟨v0,v1,v2,v3,d0,d1,d2,d3,p0,p1,p2,p3,rfl,rfl,rfl,h0,h1,h2,h3⟩:=trodAll_four hAr
 obtain ⟨rfl,rfl⟩:=trodVars_none hV
 clear hA0 hval0
 have hsz:Rows.uptoBulk d0<=1048576/\Rows.uptoBulk d2<=1048576/\Rows.uptoBulk d3<=1048576:=by
  simp only [List.append_nil,Rows.uptoBulkAll] at hsm
  omega
 have ag: ∀{t:TypeId} {v:Value} {fs:Array Field},Tryz.prog.underlying t=some (.struct fs)->Value.okWide Tryz.prog W .any base t v-> ∃us,v= .agg us:=fun hu hv=>by
  unfold Value.okWide at hv
  rw [hu] at hv
  obtain ⟨cs,rfl,_⟩:=hv
  exact ⟨_,rfl⟩
 obtain ⟨f0,g0⟩:=h0
 obtain ⟨w,c0,k0,k1⟩:=qFq g0
 have e0:=qif (ag Tryz.underlying30 (hval 0 30 v0 rfl rfl)) c0
 obtain ⟨f2,g2⟩:=h2
 obtain ⟨a,c2,k2⟩:=qx7 g2
 have e2:=qif (ag Tryz.underlying25 (hval 2 25 v2 rfl rfl)) c2
 obtain ⟨f3,g3⟩:=h3
 obtain ⟨b,c3,k3⟩:=qx7 g3
 have e3:=qif (ag Tryz.underlying25 (hval 3 25 v3 rfl rfl)) c3
 simp only at k0 k1 k2 k3
 obtain ⟨k,hk,rfl⟩:=qwp Tryz.underlying5 (hval 1 5 v1 rfl rfl)
 have lim:qBY w:=⟨by omega,fun x hx=>by
  have:=k1 x hx
  exact ⟨by have:=this.1;show x.o.length<_;omega,by have:=this.2.1;show x.hs.length<_;omega,fun y hy=>by have:=this.2.2 y hy;omega⟩⟩
 have sz: ∀{n:Nat} {r:RD},RzB n r->n<=1048576->Sz r:=fun h hn=>⟨by have:=h.1;omega,by have:=h.2;omega⟩
 have hd:qaM W (fun _=>True) [wsD w,.v (.int .u8 (k:Int)),ptR a.1 a.2,ptR b.1 b.2] [v0,.int .u8 (k:Int),v2,v3] := .cons e0 (.cons (.v rfl) (.cons e2 (.cons e3 (.nil _ _))))
 refine ((qGn hA w lim k hk a.1 a.2 b.1 b.2 (sz k2.1 hsz.2.1) (sz k2.2 hsz.2.1) (sz k3.1 hsz.2.2) (sz k3.2 hsz.2.2)).2 W _ _ hd).mono fun e W' hr=> ?_
 obtain ⟨v,rfl,hv,hb⟩:=hr
 obtain rfl:v= .bool true:=by cases hv;rfl
 have hlt: ∀x∈p0++(p1++(p2++p3)),x.block<W.heap.size:=fun x hx=>hW'.lt x (by simpa using hx)
 refine ⟨_,rfl,qiM (s:=(Rows.OpenSpec.upto Rows.workspaceShiftsSpec).at F) (pa:=p0++(p1++(p2++p3))) (pv:= []) hW' (by simp) hb (fun _ _ _=>trodAll_mk1 (shut_bool Tryz.underlying4 _)) (fun sp hsp=> ?_) (fun _ _=>rfl) (ok_one (by kernel_rfl) rfl (okWide_bool_mk Tryz.underlying4 _))⟩
 have st: ∀{t:TypeId} {v:Value} {d:DataW H} {ps:List MemPlace},Tryz.prog.readableRec t=true->t<Tryz.prog.types.size->DataW.Trod enc Tryz.prog W 0 (fun _=>true) true t v d ps->(∀x∈ps,x∈p0++(p1++(p2++p3)))->DataW.Trod enc Tryz.prog W' 0 sp true t v d ps:=
  fun hr hrow h hin=>WideElems.Trod_stays qfG hr hrow h (fun x hx=>hb.same (hlt x (hin x hx))) (fun x hx=>hsp x (by simpa using hin x hx))
 rw [Tryz.params6]
 have b0:DataW.Trod enc Tryz.prog W' 0 sp true 30 v0 d0 p0:=st (by kernel_rfl) (of_decide_eq_true (by kernel_rfl)) ⟨f0,g0⟩ (fun x hx=>by simp [hx])
 have b1:DataW.Trod enc Tryz.prog W' 0 sp true 5 (.int .u8 (k:Int)) d1 p1:=st (by kernel_rfl) (of_decide_eq_true (by kernel_rfl)) h1 (fun x hx=>by simp [hx])
 have b2:DataW.Trod enc Tryz.prog W' 0 sp true 25 v2 d2 p2:=st (by kernel_rfl) (of_decide_eq_true (by kernel_rfl)) ⟨f2,g2⟩ (fun x hx=>by simp [hx])
 have b3:DataW.Trod enc Tryz.prog W' 0 sp true 25 v3 d3 p3:=st (by kernel_rfl) (of_decide_eq_true (by kernel_rfl)) ⟨f3,g3⟩ (fun x hx=>by simp [hx])
 exact ⟨p0,_,b0,trodAll_mk3 b1 b2 b3,rfl⟩
end Go.Nv
end
