import Derived.Test.YtdjbkccoofcnjaaGreatNvC8
import Derived.Test.YtdjbkccoofcnjaaGreatNvE1
import Derived.Test.YtdjbkccoofcnjaaGreatNvN5
import Derived.Test.YtdjbkccoofcnjaaGreatNvN6
set_option linter.all false
set_option maxRecDepth 100000
section
namespace Go.Nv
open Go.RowKit Go.Proofs
theorem cloneR_c(xs:List D)(hu:Uni 6 xs)(hl:xs.length≤1000000):FunO Tryz.prog 192 [.l xs] 147 6 xs:=by
 refine ⟨⟨_,Tryz.func192,rfl,rfl⟩,fun w ok us hd=> ?_⟩
 obtain ⟨u0,rfl,h0⟩: ∃u0,us= [u0] ∧Den w ok (.l xs) u0:=by
  match us,hd with
  | [u0],hd=>exact ⟨u0,rfl,hd.2 0 _ _ rfl rfl⟩
  | [],hd=>have:=hd.1;simp at this
  |_::_::_,hd=>have:=hd.1;simp at this
 have hsd:SDen w (fun _=>undef) (fun _=>none) ok (.d (.l xs)) u0:= .d h0
 obtain ⟨A,cap,rfl,hcap,hcm,hAn,hrow⟩:=sd_l hsd
 refine (callsIn_wide (n:=0)).1 (callsIn_of_wp_marks (F:=FW none) Tryz.func192 rfl (FW.fn none 192) ?_ rfl)
 have ha:(([.slice A xs.length cap] :List Value).toArray++Array.replicate (Tryz.f192.ntmps-([.slice A xs.length cap] :List Value).toArray.size) undef)= #[.slice A xs.length cap,undef,undef,undef,undef,undef,undef,undef] :=by
  apply Array.ext'
  rw [Array.toList_append,Array.toList_replicate]
  rfl
 rw [ha]
 clear ha
 show Code.wpIn _ _ _ _ _ (stA [.slice A xs.length cap,undef,undef,undef,undef,undef,undef,undef]) _
 have bel0:Below w.heap.size w w:=⟨rfl,rfl,rfl,Nat.le_refl _,fun _ _=>rfl⟩
 refine wpIn_seq (reg_ops ?_)
 refine wpL_cons (v:= .slice none 0 0) (W':=w) rfl rfl (by intro c h;cases h) (ex_mv (.inr rfl) (stA_c _ _)) ?_
 simp only [List.set_cons_zero,List.set_cons_succ]
 refine wpIn_seq (wpIn_seq (reg_ops ?_))
 refine wpL_cons (v:=(.slice A xs.length cap)) (W':=w) rfl rfl (by intro c h;cases h) (ex_mv (.inl rfl) ((stA_ev _ _).trans rfl)) ?_
 simp only [List.set_cons_zero,List.set_cons_succ]
 cases A with
 |none=>
  have hc0:=hAn rfl
  subst hc0
  have hx0:xs= [] :=List.eq_nil_of_length_eq_zero (by omega)
  subst hx0
  refine wpL_cons (v:= .bool true) (W':=w) rfl rfl (by intro c h;cases h) (ex_nil rfl ((stA_ev _ _).trans rfl) (stA_c _ _) Tryz.underlying71) ?_
  simp only [List.set_cons_zero,List.set_cons_succ]
  refine wpIn_cond_true (by rw [stA_ev];rfl) (wpIn_seq (reg_ops ?_))
  refine wpL_cons (v:= .slice none 0 0) (W':=w) rfl rfl (by intro c h;cases h) (ex_mv (.inr rfl) (stA_c _ _)) ?_
  simp only [List.set_cons_zero,List.set_cons_succ]
  refine wpIn_ret ?_
  show LeavesInM _ _ _ Tryz.f192 _ _ _ _ _
  refine leaves_nil (v:= .slice none 0 0) (by simp [results,Tryz.f192,stA]) ⟨.slice none 0 0, [],rfl,⟨rfl,.inl ⟨rfl,rfl⟩⟩,DenL.nil _ _,by simp,bel0⟩
 |some ad=>
  obtain ⟨ti,z,hi,hz,hsz,hby,hzs⟩:=elemOk_of (P:=Tryz.prog) (e:=147) (size:=6) (bytes:=80) (by kernel_rfl)
  refine wpL_cons (v:= .bool false) (W':=w) rfl rfl (by intro c h;cases h) ((run_opNil (t:=71) rfl Tryz.underlying71 ((stA_ev _ _).trans rfl) (stA_c _ _)).1 rfl) ?_
  simp only [List.set_cons_zero,List.set_cons_succ]
  refine wpIn_cond_false (by rw [stA_ev];rfl) (wpIn_skip ?_)
  refine wpIn_seq (reg_ops ?_)
  obtain ⟨w1,hw1⟩: ∃w1,w1=w.alloc (.cells #[] 147):=⟨_,rfl⟩
  have hbs: ∀{o:Oper} {ev:Operand→Value},o.op= .buildSlice 71 0 #[] →(execOp ev o).run Tryz.prog w= .ok (.value (.slice (some ⟨w.heap.size,0,none⟩) 0 0)) w1:=fun h=>by rw [hw1];exact ex_bs h Tryz.underlying71 hi
  have hown:w1.ownsRow w.heap.size 147 6 (.slice (some ⟨w.heap.size,0,none⟩) 0 0) 0 [] :=⟨rfl,.inr ⟨w.heap.size,0, #[],rfl,Nat.le_refl _,by rw [hw1];exact heap_alloc_new w _,Nat.le_refl _,by simp [maxLen],rfl,rfl⟩⟩
  have hsz1:w.heap.size≤w1.heap.size:=by rw [hw1];simp
  have hold: ∀k,k<w.heap.size→w1.heap[k]? =w.heap[k]? :=fun k hk=>by
   rw [hw1]
   first|exact heap_alloc_old w _ k hk|exact heap_alloc_old w k hk|exact heap_alloc_old w _ hk
  have hfy:=flat_uni hu
  obtain ⟨vs,hvs,hcells,hd2,h12⟩: ∃vs:List Value,vs.length=xs.length*6∧(∀j u,vs[j]? =some u→w1.cell? (ad.add j)=some u)∧DenL w ok (flat xs) vs∧ ∀(i:Nat) (u:Value),vs[i]? =some u→u.oneCell'=true:=by
   by_cases hne:flat xs= []
   ·refine ⟨[], ?_,by simp,by rw [hne];exact DenL.nil _ _,by simp⟩
    rw [←hfy,hne];rfl
   ·obtain ⟨b,off,vs,hA,hvn,_,hc,hd2,h12⟩:=hrow hne
    simp at hA;subst hA
    refine ⟨vs,by rw [hd2.1,hfy],fun j u hu=> ?_,hd2,h12⟩
    rw [add_none]
    have h1:=hc j u hu
    have hb:b<w.heap.size:=by
     unfold World.cell? at h1
     cases hq:w.heap[b]? with
     |none=>simp [hq] at h1
     |some q=>exact (Array.getElem?_eq_some_iff.1 hq).1
    unfold World.cell? at h1 ⊢
    simp only at h1 ⊢
    rw [hold b hb];exact h1
  obtain ⟨v',w2,hr,g1,g2,_,g4⟩:=run_append_own_at (P:=Tryz.prog) w1 w.heap.size 71 71 147 ti z 6 80 Tryz.underlying71 hi hz hsz hby hzs (by omega) (.slice (some ⟨w.heap.size,0,none⟩) 0 0) 0 [] hown ad xs.length cap vs hvs hcells
   (fun u hu=>by obtain ⟨j,hj⟩:=List.getElem?_of_mem hu;exact h12 j u hj) (by simp only [maxLen];omega) (by omega) hsz1
  refine wpL_cons (v:=(.slice (some ⟨w.heap.size,0,none⟩) 0 0)) (W':=w1) rfl rfl (by intro c h;cases h) (hbs rfl) ?_
  simp only [List.set_cons_zero,List.set_cons_succ]
  refine wpL_cons (v:=(.slice (some ad) xs.length cap)) (W':=w1) rfl rfl (by intro c h;cases h) (ex_mv (.inl rfl) ((stA_ev _ _).trans rfl)) ?_
  simp only [List.set_cons_zero,List.set_cons_succ]
  refine wpL_cons (v:=v') (W':=w2) rfl rfl (by intro c h;cases h) (ex_apmk rfl ((stA_ev _ _).trans rfl) ((stA_ev _ _).trans rfl) hr) ?_
  simp only [List.set_cons_zero,List.set_cons_succ]
  refine wpL_cons (v:=v') (W':=w2) rfl rfl (by intro c h;cases h) (ex_mv (.inr rfl) ((stA_ev _ _).trans rfl)) ?_
  simp only [List.set_cons_zero,List.set_cons_succ]
  refine wpIn_ret ?_
  rw [Nat.zero_add,List.nil_append] at g1
  have hkeep: ∀k,k<w.heap.size→w2.heap[k]? =w.heap[k]? :=fun k hk=>by
   rw [g2.block k (by omega) (by simp [Value.ownBlock];omega),hold k hk]
  refine leaves_nil (v:=v') (by simp [results,Tryz.f192,stA]) ⟨v',vs,rfl,g1, ?_,h12, ?_⟩
  ·refine hd2.keep (fun b _ hb=>hkeep b hb) (fun b hok hb=>⟨.inl hok,fun e=> ?_⟩)
   rw [blk_own _ _ g1] at e
   rcases g4 with h|h
   ·rw [h] at e;simp [Value.ownBlock] at e;omega
   ·rw [h] at e;simp at e;omega
  ·exact ⟨g2.os.trans (by rw [hw1];rfl),g2.tape.trans (by rw [hw1];rfl),g2.output.trans (by rw [hw1];rfl),Nat.le_trans hsz1 g2.size,fun k hk=>hkeep k hk⟩
end Go.Nv
end
section
namespace Go.Nv
open Go.RowKit
def OkOps0(P:Program):List Oper→St→(St→Prop)→Prop
 | [],st,K=>K st
 |o::l,st,K=>o.guard=none∧OkOp P o st (fun st'=>OkOps0 P l st' K)
@[irreducible] def OkOps(P:Program)(l:List Oper)(st:St)(K:St→Prop):Prop:=OkOps0 P l st K
theorem okOps_eq(P:Program)(l:List Oper)(st:St)(K:St→Prop):OkOps P l st K=OkOps0 P l st K:=by unfold OkOps;rfl
section
variable {P:Program} {T:Tb} {mu:Tmp→Bool}
theorem okOps_nil{st:St}{K:St→Prop}(h:K st):OkOps P [] st K:=by rw [okOps_eq];exact h
theorem okOps_cons{o:Oper}{l:List Oper}{st:St}{K:St→Prop}(hg:o.guard=none)(h:OkOp P o st (fun st'=>OkOps P l st' K)):OkOps P (o::l) st K:=by
 rw [okOps_eq]
 refine ⟨hg, ?_⟩
 have e:(fun st'=>OkOps P l st' K)=fun st'=>OkOps0 P l st' K:=funext fun st'=>okOps_eq ..
 rw [←e];exact h
theorem okOps_go(mu:Tmp→Bool)(hT:TbOk P T){o:Oper}{l:List Oper}{st:St}{K:St→Prop}(hg:o.guard=none)(h:goOp P T mu o st (fun st'=>OkOps P l st' K)):OkOps P (o::l) st K:=okOps_cons hg (goOp_sound hT h)
theorem ok_ops{id:Nat}{ops:Array Oper}{st:St}{K:Ex→St→Prop}(h:OkOps P ops.toList st (K .normal)):Ok P (.region id ops false) st K:=by
 intro n old bs w0 a W ι hr
 refine wpIn_region ?_
 have key: ∀(l:List Oper) (i:Nat) (st:St) (a:Act) (W:World) (ι:Nat→Value),ops.toList.drop i=l→OkOps0 P l st (K .normal)→Rel old bs w0 ι st a W→wpOpsIn (FW w0.r) n P ops (Post old bs w0 K) (List.range' i l.length) a W:=by
  intro l
  induction l with
  |nil=>intro i st a W ι _ h hr;exact ⟨.normal,st,ι,rfl,h,hr⟩
  |cons o l ih=>
   intro i st a W ι hd h hr
   obtain ⟨hg,ho⟩:=h
   have hoi:ops[i]? =some o:=by
    have:(ops.toList.drop i)[0]? =some o:=by rw [hd];rfl
    simpa using this
   have hd':ops.toList.drop (i+1)=l:=by
    rw [←List.drop_drop,hd];rfl
   rw [List.length_cons,List.range'_succ]
   simp only [wpOpsIn,hoi]
   rw [if_pos (by simp [Region.wanted,hg])]
   exact ho _ _ _ _ _ _ _ _ _ hr fun st' a' W' ι' hk hrel=>ih (i+1) _ _ _ ι' hd' hk hrel
 rw [List.range_eq_range']
 rw [okOps_eq] at h
 have:=key ops.toList 0 st a W ι (by simp) h hr
 simpa using this
theorem okOp_sl3{o:Oper}{xt ee:TypeId}{x lo hi m:Operand}{st:St}{K:St→Prop}{xs:List D}{l h mm:Nat}(hop:o.op= .slice xt x (some lo) (some hi) (some m))(e1:evx st.env x= .d (.l xs))(e2:evx st.env lo= .d (.v (.int .i64 l)))(e3:evx st.env hi= .d (.v (.int .i64 h)))(e4:evx st.env m= .d (.v (.int .i64 mm)))
  (hut:P.underlying xt=some (.slice ee)) (t1:0<P.cellsOf ee) (t5:Uni (P.cellsOf ee) xs) (t2:l≤h) (t3:h≤mm) (t4:mm≤xs.length) (hv:K ⟨putx st.env o.dst (.d (.l (subL xs l h))),st.t⟩):OkOp P o st K:=by
 intro n old bs w0 a W ι Kw Q hr hK
 have hxx:=hr.ev x
 have hx2:=hr.ev lo
 have hx3:=hr.ev hi
 have hx4:=hr.ev m
 rw [evx_eq] at e1 e2 e3 e4
 rw [putx_eq] at hv
 rw [e1] at hxx
 rw [e2] at hx2
 rw [e3] at hx3
 rw [e4] at hx4
 refine wpIn_of_opOk hr (val:= .d (.l (subL xs l h))) (upd:=none) ?_ (by intro c hc;rw [hop] at hc;cases hc) fun a' W' ι' _ hrel=>hK _ _ _ ι' hv hrel
 obtain ⟨A,cap,hvv,hcap,hcm,hAn,hrow⟩:=sd_l hxx
 have v2:=(sd_v hx2).1
 have v3:=(sd_v hx3).1
 have v4:=(sd_v hx4).1
 have hb:=run_bounds3 (P:=P) (W:=W) (len:=xs.length) (cap:=cap) t2 t3 (by omega)
 have hrun:(execOp a.eval o).run P W= .ok (.value (.slice (if mm=l then A else A.map (·.add (l*P.cellsOf ee))) (h-l) (mm-l))) W:=by
  simp [execOp,hop,Instr.sliceAt,Instr.slice,underlying,hut,hvv,v2,v3,v4,hb,run_sizeOf_ne (Nat.ne_of_gt t1)]
 refine OpOk.pure hr.tok hrun ?_
 have hlen:(subL xs l h).length=h-l:=by simp [subL];omega
 by_cases hz:h-l=0
 ·have e0:subL xs l h= [] :=List.eq_nil_of_length_eq_zero (by omega)
  rw [e0,hz]
  refine .d (.l0 (by omega) fun hn=> ?_)
  split at hn
  ·omega
  ·have:=hAn (by simpa using hn);omega
 ·rw [←hlen]
  have hne:flat xs≠ [] :=by
   intro hn
   have h2:=flat_uni t5
   rw [hn] at h2
   have:0<xs.length*P.cellsOf ee:=Nat.mul_pos (by omega) t1
   simp at h2;omega
  obtain ⟨b,off,us,rfl,hne',hok,hc,hd,h1'⟩:=hrow hne
  rw [if_neg (by omega)]
  simp only [Option.map_some,add_none]
  have hut2:Uni (P.cellsOf ee) (xs.take h):=fun y hy=>t5 y (List.mem_of_mem_take hy)
  have e1':flat (subL xs l h)=((flat xs).take (h*P.cellsOf ee)).drop (l*P.cellsOf ee):=by unfold subL;rw [flat_drop hut2,flat_take t5]
  have e2':=(hd.take (h*P.cellsOf ee)).drop (l*P.cellsOf ee)
  rw [←e1'] at e2'
  have hfl:=flat_uni (size:=P.cellsOf ee) (xs:=subL xs l h) (fun y hy=>hut2 y (List.mem_of_mem_drop hy))
  refine .d (.l ?_ e2'.1 hok ?_ e2'.2 ?_ (by omega) (by omega))
  ·intro hn
   have:=e2'.1
   rw [hn,hfl,hlen] at this
   have:0<(h-l)*P.cellsOf ee:=Nat.mul_pos (by omega) t1
   simp at*;omega
  ·intro i u hu'
   rw [List.getElem?_drop,List.getElem?_take] at hu'
   split at hu'
   ·have:=hc _ _ hu'
    rwa [show off+(l*P.cellsOf ee+i)=off+l*P.cellsOf ee+i from by omega] at this
   ·simp at hu'
  ·exact one_sub h1' fun u hu'=>List.mem_of_mem_take (List.mem_of_mem_drop hu')
end
end Go.Nv
end
