import Derived.Test.YtdjbkccoofcnjaaGreatNvD13
import Derived.Test.YtdjbkccoofcnjaaGreatNvD14
import Derived.Test.YtdjbkccoofcnjaaGreatNvD6
import Derived.Test.YtdjbkccoofcnjaaGreatNvC8
import Derived.Test.YtdjbkccoofcnjaaGreatNvN6
set_option linter.all false
set_option maxRecDepth 100000
section
namespace Go.Nv
open Go.Proofs Nw
def chD(q:Rat):D:= .v (.int .u8 (chI q))
theorem tenth(i:Nat):Rat.divInt (i:Int) 10=(i:Rat)/10:=by
 rw [Rat.divInt_eq_div];push_cast;rfl
theorem fchar_c{q:Rat}(hq:Q q)(h0:0≤q)(h1:q≤1):Fun Tryz.prog 116 [ratD q] [.v (.string (bytS [chD q]))] :=by
 refine fun_of_go (fun t=>t==4) mixed tOk Tryz.func116 rfl rfl ?_
 conv=>whnf
 refine call_data rfl rfl (rsign_q hq) ?_
 conv=>whnf
 refine cond_e (fun c1=> ?_) (fun c1=> ?_)
 ·have e:bytS [chD q] =⟨#[46]⟩:=by
   have:chI q=46:=by unfold chI;rw [if_pos (sgnI_zero.1 c1)]
   unfold chD;rw [this];rfl
  rw [e]
  conv=>whnf
  exact ⟨rfl,trivial⟩
 have hz:q≠0:=fun h=>c1 (sgnI_zero.2 h)
 conv=>whnf
 refine loop_intro (fun t=>t==4) (fun i:Nat=>⟨fr 27 [(1,.d (.p 0 (ratD q).cells)),(3,.d (i64 ((i+1:Nat):Int)))], []⟩) (fun i=>i≤10∧(i:Rat)≤q*10) (fun i=>10-i) 0 mixed tOk ⟨by omega,by have:((0:Nat):Rat)=0:=rfl;rw [this];grind⟩ ?_ ?_
 ·refine weak_r ?_ ?_<;>repeat' (first|exact trivial|exact rfl|apply And.intro)
 ·rintro i ⟨hi,hge⟩
  conv=>whnf
  refine cond_d (fun hlt=> ?_) (fun hlt=> ?_)
  ·have hi':i<10:=by omega
   have hr:=rratio_q ((i+1:Nat):Int) 10 (by omega) (by omega)
   have ht:Rat.divInt ((i+1:Nat):Int) ((10:Nat):Int)=((i+1:Nat):Rat)/10:=tenth (i+1)
   rw [ht] at hr
   have hqt:Q (((i+1:Nat):Rat)/10):=by
    have b1:=(bd_int ((i+1:Nat):Int) (n:=1) (by rw [Int.natAbs_natCast];omega)).div (bd_int 10 (n:=1) (by decide))
    exact .mk b1 (by omega)
   conv=>whnf
   refine call_data rfl rfl hr ?_
   conv=>whnf
   refine call_data rfl rfl (fless_c hq hqt) ?_
   conv=>whnf
   refine cond_intro (fun c2=> ?_) (fun c2=> ?_)
   ·replace c2:=of_decide_eq_true c2
    have hk:flK (q*((10:Int):Rat))=(i:Int):=by
     refine flK_is ?_ ?_
     ·exact_mod_cast hge
     ·have e:(((i+1:Nat):Rat))=(i:Rat)+1:=by push_cast;rfl
      rw [e] at c2
      have e10:((10:Int):Rat)=10:=rfl
      rw [e10]
      have:((i:Int):Rat)=(i:Rat):=rfl
      rw [this]
      grind
    have ho:q≠1:=by
     intro h
     rw [h] at c2
     have:((i+1:Nat):Rat)≤((10:Nat):Rat):=by exact_mod_cast (show i+1≤10 by omega)
     have e10:((10:Nat):Rat)=10:=rfl
     rw [e10] at this
     grind
    have ec:chI q=48+(i:Int):=by unfold chI;rw [if_neg hz,if_neg ho,hk]
    unfold chD
    rw [ec]
    conv=>whnf
    refine sd_d (by omega) ?_
    conv=>whnf
    refine sd_d (by omega) ?_
    conv=>whnf
    rw [show (48+((i+1:Nat):Int)-1)%256=48+(i:Int) by omega]
    refine sd_intro rfl ?_
    conv=>whnf
    refine ⟨?_,trivial⟩
    conv=>whnf
   ·replace c2:=of_decide_eq_false c2
    conv=>whnf
    refine sd_d (by omega) ?_
    conv=>whnf
    refine ⟨i+1,⟨by omega, ?_⟩,by omega, ?_⟩
    ·grind
    ·rw [show ((i+1+1:Nat):Int)=((i+1:Nat):Int)+1 from rfl]
     refine weak_dead 0 rfl ?_
     refine weak_r ?_ ?_<;>repeat' (first|exact trivial|exact rfl|apply And.intro)
  ·have:i=10:=by omega
   subst this
   have ho:q=1:=by
    have e10:((10:Nat):Rat)=10:=rfl
    rw [e10] at hge
    grind
   have e:bytS [chD q] =⟨#[35]⟩:=by
    have:chI q=35:=by unfold chI;rw [if_neg hz,if_pos ho]
    unfold chD;rw [this];rfl
   rw [e]
   conv=>whnf
   exact ⟨rfl,trivial⟩
def prB(l:List Rat)(c:Nat):Nat→List D
 |0=> []
 |i+1=>prB l c i++ [chD (l.getD i 0)] ++(if i%c=c-1 then [.v (.int .u8 10)] else [])
theorem bytS_app(a b:List D):bytS (a++b)=bytS a++bytS b:=by
 unfold bytS
 ext1
 simp
theorem prB_len(l:List Rat)(c:Nat): ∀i,(prB l c i).length≤2*i
 |0=>by simp [prB]
 |i+1=>by
  have:=prB_len l c i
  simp only [prB,List.length_append,List.length_cons,List.length_nil]
  split<;>simp<;>omega
abbrev dL(l:List RD):List D:=l.map rdD
theorem dL_uni(l:List RD):Uni 3 (dL l):=by
 intro x hx
 obtain ⟨p,_,rfl⟩:=List.mem_map.1 hx
 rfl
theorem dL_get{l:List RD}{i:Nat}(h:i<l.length):(dL l)[(i:Int).toNat]? =some (rdD l[i]):=by simp [h]
theorem bytS_size(xs:List D):(bytS xs).size=xs.length:=by
 unfold bytS
 show (Array.size _)=_
 simp
def coB(r:RD):Bool:=decide (okN r=0)&&(decide (0≤r.val)&&decide (r.val≤1))
def prE(l:List RD)(c r:Int):Int:=if c<1∨128<c∨r<1∨128<r then 2 else if (l.length:Int)≠c*r then 9 else if l.all coB=true then 0 else 1
def prT(l:List RD)(c r:Int):ByteArray:=if prE l c r=0 then bytS (prB (l.map RD.val) c.toNat l.length) else emp
theorem prB_succ{l:List RD}{c i:Nat}(h:i<l.length):prB (l.map RD.val) c (i+1)=prB (l.map RD.val) c i++ [chD l[i].val] ++(if i%c=c-1 then [.v (.int .u8 10)] else []):=by
 have:(l.map RD.val).getD i 0=l[i].val:=by
  rw [List.getD_eq_getElem?_getD,List.getElem?_map,List.getElem?_eq_getElem h];rfl
 rw [prB,this]
theorem co_rd{r:RD}(h:okN r=0):rdD r=ratD r.val:=by
 have:=okN_zero.1 h
 rw [ratD_eq,this]
theorem sgnI_neg{p:Rat}:sgnI p<0↔p<0:=by
 have:=sgnI_nonneg (p:=p)
 constructor
 ·intro h
  have h1: ¬0≤p:=fun h2=>by have:=this.2 h2;omega
  grind
 ·intro h
  have h1: ¬0≤sgnI p:=fun h2=>by have:=this.1 h2;grind
  omega
theorem prE_bad{l:List RD}{c r:Int}(h1: ¬(c<1∨128<c∨r<1∨128<r))(h2: ¬(l.length:Int)≠c*r){i:Nat}(hi:i<l.length)(hb:coB l[i] =false):prE l c r=1:=by
 unfold prE
 rw [if_neg h1,if_neg h2,if_neg]
 intro h
 rw [List.all_eq_true.1 h _ (List.getElem_mem hi)] at hb
 exact absurd hb (by decide)
theorem fprint_c{l:List RD}{c r:Int}{n:Nat}(hz: ∀x∈l,Sz x)(hb: ∀x∈l,Bd n x.val)(hn:n<1000000)(hlen:l.length≤100000):Fun Tryz.prog 44 [.l (dL l),i64 c,i64 r] [.v (.string (prT l c r)),i64 (prE l c r)] :=by
 have hll:(dL l).length=l.length:=by simp
 have h11:=rofr_c 1 (by omega)
 rw [Rat.intCast_one] at h11
 have q1:Q (1:Rat):= .mk (bd_int 1 (n:=0) (by simp)) (by omega)
 have hbad:(c<1∨128<c∨r<1∨128<r)→prE l c r=2∧prT l c r=emp:=fun h=>by
  have:prE l c r=2:=by unfold prE;rw [if_pos h]
  exact ⟨this,by unfold prT;rw [if_neg (by rw [this];decide)]⟩
 refine fun_of_go (fun t=>false) mixed tOk Tryz.func44 rfl rfl ?_
 conv=>whnf
 refine cond_d (fun c1=> ?_) (fun c1=> ?_)
 ·obtain ⟨e1,e2⟩:=hbad (by omega)
  rw [e1,e2]
  conv=>whnf
  exact ⟨rfl,rfl,trivial⟩
 conv=>whnf
 refine cond_d (fun c2=> ?_) (fun c2=> ?_)
 ·obtain ⟨e1,e2⟩:=hbad (by omega)
  rw [e1,e2]
  conv=>whnf
  exact ⟨rfl,rfl,trivial⟩
 conv=>whnf
 refine cond_d (fun c3=> ?_) (fun c3=> ?_)
 ·obtain ⟨e1,e2⟩:=hbad (by omega)
  rw [e1,e2]
  conv=>whnf
  exact ⟨rfl,rfl,trivial⟩
 conv=>whnf
 refine cond_d (fun c4=> ?_) (fun c4=> ?_)
 ·obtain ⟨e1,e2⟩:=hbad (by omega)
  rw [e1,e2]
  conv=>whnf
  exact ⟨rfl,rfl,trivial⟩
 have hg: ¬(c<1∨128<c∨r<1∨128<r):=by omega
 have hcr:0≤c*r∧c*r≤128*128:=⟨Int.mul_nonneg (by omega) (by omega),Int.mul_le_mul (by omega) (by omega) (by omega) (by omega)⟩
 conv=>whnf
 refine sd_d (by omega) ?_
 conv=>whnf
 refine cond_ne (fun c5=> ?_) (fun c5=> ?_)
 ·have e1:prE l c r=9:=by unfold prE;rw [if_neg hg,if_pos (by rw [hll] at c5;exact c5)]
  have e2:prT l c r=emp:=by unfold prT;rw [if_neg (by rw [e1];decide)]
  rw [e1,e2]
  conv=>whnf
  exact ⟨rfl,rfl,trivial⟩
 rw [hll] at c5
 have hm: ¬(l.length:Int)≠c*r:=fun h=>h c5
 have hpb:=fun (i:Nat) (hi:i<l.length) (hb:coB l[i] =false)=>prE_bad hg hm hi hb
 obtain ⟨C,rfl⟩: ∃C:Nat,c=C:=⟨c.toNat,by omega⟩
 conv=>whnf
 refine loop_intro (fun t=>false) (fun i:Nat=>⟨fr 74 [(0,.d (.l (dL l))),(1,.d (i64 (C:Int))),(8,.d (.v (.string (bytS (prB (l.map RD.val) C i))))),(9,.d (i64 i))], []⟩) (fun i=>i≤l.length∧ ∀j (h:j<l.length),j<i→coB l[j] =true) (fun i=>l.length-i) 0 mixed tOk ⟨by omega,fun j _ hj=>by omega⟩ ?_ ?_
 ·rw [show bytS (prB (l.map RD.val) C 0)=emp from rfl]
  refine weak_r ?_ ?_<;>repeat' (first|exact trivial|exact rfl|apply And.intro)
 ·rintro i ⟨hi,hno⟩
  conv=>whnf
  refine cond_d (fun hlt=> ?_) (fun hge=> ?_)
  ·have hlt':i<l.length:=by omega
   have hsz:=hz _ (List.getElem_mem hlt')
   have hbd:=hb _ (List.getElem_mem hlt')
   have hget:=dL_get hlt'
   have hps:=prB_succ (c:=C) hlt'
   have hpl:=prB_len (l.map RD.val) C i
   have hpb':=hpb i hlt'
   have hstep:coB l[i] =true→ ∀j (h:j<l.length),j<i+1→coB l[j] =true:=fun hh j h hj=>by
    by_cases e:j=i
    ·subst e;exact hh
    ·exact hno j h (by omega)
   have hco:coB l[i] =(decide (okN l[i] =0)&&(decide (0≤l[i].val)&&decide (l[i].val≤1))):=rfl
   generalize prB (l.map RD.val) C i=P at*
   generalize l[i] =x at*
   have qx:Q x.val:= .mk hbd (by omega)
   conv=>whnf
   refine idx_intro (rdD x) hget (by omega) (dL_uni l) ?_
   conv=>whnf
   refine callv_data (rcheck_r x hsz) ?_
   conv=>whnf
   refine cond_ne (fun c6=> ?_) (fun c6=> ?_)
   ·have e1:=hpb' (by rw [hco,decide_eq_false c6];rfl)
    have e2:prT l (C:Int) r=emp:=by unfold prT;rw [if_neg (by rw [e1];decide)]
    rw [e1,e2]
    conv=>whnf
    refine safe_intro (by kernel_rfl) ?_
    conv=>whnf
    exact ⟨rfl,rfl,trivial⟩
   have hrd:=co_rd c6
   rw [decide_eq_true c6] at hco
   rw [hrd] at hget
   conv=>whnf
   refine idx_intro (ratD x.val) hget (by omega) (dL_uni l) ?_
   conv=>whnf
   refine callv_data (rsign_q qx) ?_
   conv=>whnf
   refine cond_d (fun c7=> ?_) (fun c7=> ?_)
   ·have c7':=sgnI_neg.1 c7
    have e1:=hpb' (by rw [hco,decide_eq_false (show¬0≤x.val by grind)];rfl)
    have e2:prT l (C:Int) r=emp:=by unfold prT;rw [if_neg (by rw [e1];decide)]
    rw [e1,e2]
    conv=>whnf
    refine safe_intro (by kernel_rfl) ?_
    conv=>whnf
    exact ⟨rfl,rfl,trivial⟩
   have c7':0≤x.val:=by
    have:=fun h=>c7 (sgnI_neg.2 h)
    grind
   rw [decide_eq_true c7'] at hco
   conv=>whnf
   refine callv_data h11 ?_
   conv=>whnf
   refine idx_intro (ratD x.val) hget (by omega) (dL_uni l) ?_
   conv=>whnf
   refine callv_data (fless_c q1 qx) ?_
   conv=>whnf
   refine safe_intro (by kernel_rfl) ?_
   conv=>whnf
   refine cond_intro (fun c8=> ?_) (fun c8=> ?_)
   ·replace c8:=of_decide_eq_true c8
    have e1:=hpb' (by rw [hco,decide_eq_false (show¬x.val≤1 by grind)];rfl)
    have e2:prT l (C:Int) r=emp:=by unfold prT;rw [if_neg (by rw [e1];decide)]
    rw [e1,e2]
    conv=>whnf
    exact ⟨rfl,rfl,trivial⟩
   replace c8:=of_decide_eq_false c8
   have c8':x.val≤1:=by grind
   rw [decide_eq_true c8'] at hco
   have hst:=hstep hco
   have hs1:=bytS_size P
   have hs2:=bytS_size [chD x.val]
   conv=>whnf
   refine idx_intro (ratD x.val) hget (by omega) (dL_uni l) ?_
   conv=>whnf
   refine call_data rfl rfl (fchar_c qx c7' c8') ?_
   conv=>whnf
   refine sd_d (by rw [hs1,hs2];simp only [List.length_cons,List.length_nil];omega) ?_
   conv=>whnf
   have e3:Int.tmod (i:Int) (C:Int)=((i%C:Nat):Int):=tmod_nat i C
   refine sd_d (by omega) ?_
   conv=>whnf
   refine sd_d (by omega) ?_
   conv=>whnf
   rw [e3]
   refine cond_e (fun c9=> ?_) (fun c9=> ?_)
   ·have c9':i%C=C-1:=by omega
    rw [if_pos c9'] at hps
    have hpt:bytS (prB (l.map RD.val) C (i+1))=bytS P++bytS [chD x.val] ++⟨#[10]⟩:=by
     rw [hps,bytS_app,bytS_app];rfl
    conv=>whnf
    refine sd_d (by rw [ByteArray.size_append,hs1,hs2,show (⟨#[10]⟩:ByteArray).size=1 from rfl];simp only [List.length_cons,List.length_nil];omega) ?_
    conv=>whnf
    refine sd_d (by omega) ?_
    conv=>whnf
    refine ⟨i+1,⟨by omega,hst⟩,by omega, ?_⟩
    rw [hpt,Int.natCast_succ]
    refine weak_r ?_ ?_<;>repeat' (first|exact trivial|exact rfl|apply And.intro)
   ·have c9': ¬i%C=C-1:=by omega
    rw [if_neg c9',List.append_nil] at hps
    have hpt:bytS (prB (l.map RD.val) C (i+1))=bytS P++bytS [chD x.val] :=by
     rw [hps,bytS_app]
    conv=>whnf
    refine sd_d (by omega) ?_
    conv=>whnf
    refine ⟨i+1,⟨by omega,hst⟩,by omega, ?_⟩
    rw [hpt,Int.natCast_succ]
    refine weak_r ?_ ?_<;>repeat' (first|exact trivial|exact rfl|apply And.intro)
  ·have hiE:i=l.length:=by omega
   subst hiE
   have e1:prE l (C:Int) r=0:=by
    unfold prE
    rw [if_neg hg,if_neg hm,if_pos]
    rw [List.all_eq_true]
    intro x hx
    obtain ⟨j,hj,rfl⟩:=List.getElem_of_mem hx
    exact hno j hj hj
   have e2:prT l (C:Int) r=bytS (prB (l.map RD.val) C l.length):=by
    unfold prT;rw [if_pos e1];rfl
   rw [e1,e2]
   conv=>whnf
   refine ⟨?_, ?_,trivial⟩
   ·conv=>whnf
   ·conv=>whnf
theorem chunkn_c(xs:List Rat)(n:Nat)(hn:1≤n):Fun Tryz.prog 105 [.l (qL xs),i64 n] [.f 190 [.p 0 [.l (qL xs)],.p 0 [i64 n]]] :=by
 refine fun_of_go (fun t=>false) mixed tOk Tryz.func105 rfl rfl ?_
 conv=>whnf
 refine cond_df (by omega) ?_
 conv=>whnf
 refine ⟨?_,trivial⟩
 conv=>whnf
 rfl
def rwB(vs:List Rat)(C k j:Nat):List D:=prB vs C (C*k)++(List.range j).map fun t=>chD (vs.getD (C*k+t) 0)
theorem rwB_zero(vs:List Rat)(C k:Nat):rwB vs C k 0=prB vs C (C*k):=by simp [rwB]
theorem rwB_succ(vs:List Rat)(C k j:Nat):rwB vs C k (j+1)=rwB vs C k j++ [chD (vs.getD (C*k+j) 0)] :=by
 unfold rwB
 rw [List.range_succ,List.map_append, ←List.append_assoc]
 rfl
theorem rwB_lt(vs:List Rat){C k:Nat}: ∀j,j<C→prB vs C (C*k+j)=rwB vs C k j
 |0,_=>(rwB_zero vs C k).symm
 |j+1,h=>by
  have ih:=rwB_lt vs (C:=C) (k:=k) j (by omega)
  rw [show C*k+(j+1)=(C*k+j)+1 by omega,prB,ih,rwB_succ]
  have e:(C*k+j)%C=j:=by rw [Nat.mul_add_mod,Nat.mod_eq_of_lt (by omega)]
  rw [e,if_neg (by omega),List.append_nil]
theorem rwB_all(vs:List Rat){C:Nat}(hC:0<C)(k:Nat):prB vs C (C*(k+1))=rwB vs C k C++ [.v (.int .u8 10)] :=by
 obtain ⟨c,rfl⟩: ∃c,C=c+1:=⟨C-1,by omega⟩
 have ih:=rwB_lt vs (C:=c+1) (k:=k) c (by omega)
 have e0:(c+1)*(k+1)=((c+1)*k+c)+1:=by rw [Nat.mul_add];omega
 rw [e0,prB,ih,rwB_succ]
 have e:((c+1)*k+c)%(c+1)=c:=by rw [Nat.mul_add_mod,Nat.mod_eq_of_lt (by omega)]
 rw [e,if_pos (by omega)]
theorem prB_u8(vs:List Rat)(C:Nat): ∀i,allU8B (prB vs C i)=true:=fun i=>by
 rw [allU8B_eq]
 induction i with
 |zero=>intro x hx;simp [prB] at hx
 |succ i ih=>
  intro x hx
  rw [prB] at hx
  rcases List.mem_append.1 hx with hx|hx
  ·rcases List.mem_append.1 hx with hx|hx
   ·exact ih x hx
   ·rw [List.mem_singleton.1 hx];exact ⟨_,rfl⟩
  ·split at hx
   ·rw [List.mem_singleton.1 hx];exact ⟨_,rfl⟩
   ·simp at hx
theorem prB_uni(vs:List Rat)(C i:Nat):Uni 1 (prB vs C i):=by
 have h:=prB_u8 vs C i
 rw [allU8B_eq] at h
 intro x hx
 obtain ⟨n,rfl⟩:=h x hx
 rfl
theorem rwB_uni(vs:List Rat)(C k j:Nat):Uni 1 (rwB vs C k j):=by
 intro x hx
 unfold rwB at hx
 rcases List.mem_append.1 hx with hx|hx
 ·exact prB_uni vs C _ x hx
 ·obtain ⟨t,_,rfl⟩:=List.mem_map.1 hx
  rfl
theorem rwB_len(vs:List Rat)(C k j:Nat):(rwB vs C k j).length≤2*(C*k)+j:=by
 unfold rwB
 have:=prB_len vs C (C*k)
 rw [List.length_append,List.length_map,List.length_range]
 omega
noncomputable def prSt(vs:List Rat)(C k:Nat):St:=
 ⟨fr 31 [(0,.own 2 0),(1,.d (.p 0 [.l (qL vs)])),(2,.d (.p 0 [i64 (C:Int)])),(4,.d (i64 ((C*k:Nat):Int)))],
  [.box 150 [.own 1 0],.row 0 5 1 1 (prB vs C (C*k)),
  .loop .ready none #[58] (rfO Tryz.f43.body).1 (rfO Tryz.f43.body).2 (fr 76 [(10,.ptr 0 0 0)])]⟩
noncomputable def prS2(vs row:List Rat)(C k j:Nat):St:=
 ⟨fr 76 [(10,.ptr 0 0 0),(59,.d (.l (qL row))),(60,.d (i64 ((qL row).length:Nat))),(61,.d (i64 j))],
  [.box 150 [.own 1 0],.row 0 5 1 1 (rwB vs C k j),
  .loop .busy none #[58] (rfO Tryz.f43.body).1 (rfO Tryz.f43.body).2 (fr 76 [(10,.ptr 0 0 0)]),
  .ghost (fr 31 [(0,.own 2 0),(1,.d (.p 0 [.l (qL vs)])),(2,.d (.p 0 [i64 (C:Int)])),(4,.d (i64 ((C*k:Nat):Int))),(5,.d (i64 (C:Int)))])]⟩
theorem print_c{l:List RD}{c r:Int}{n:Nat}(hz: ∀x∈l,Sz x)(hb: ∀x∈l,Bd n x.val)(hn:n<1000000)(hlen:l.length≤100000):Fun Tryz.prog 43 [.l (dL l),i64 c,i64 r] [.v (.string (prT l c r)),i64 (prE l c r)] :=by
 have hll:(dL l).length=l.length:=by simp
 have h11:=of_r 1 (by omega)
 rw [Rat.intCast_one] at h11
 have q1:Q (1:Rat):= .mk (bd_int 1 (n:=0) (by simp)) (by omega)
 have hbad:(c<1∨128<c∨r<1∨128<r)→prE l c r=2∧prT l c r=emp:=fun h=>by
  have:prE l c r=2:=by unfold prE;rw [if_pos h]
  exact ⟨this,by unfold prT;rw [if_neg (by rw [this];decide)]⟩
 refine fun_of_go (fun t=>t==9||t==10||t==13) mixed tOk Tryz.func43 rfl rfl ?_
 conv=>whnf
 refine cond_d (fun c1=> ?_) (fun c1=> ?_)
 ·obtain ⟨e1,e2⟩:=hbad (by omega)
  rw [e1,e2]
  conv=>whnf
  exact ⟨rfl,rfl,trivial⟩
 conv=>whnf
 refine cond_d (fun c2=> ?_) (fun c2=> ?_)
 ·obtain ⟨e1,e2⟩:=hbad (by omega)
  rw [e1,e2]
  conv=>whnf
  exact ⟨rfl,rfl,trivial⟩
 conv=>whnf
 refine cond_d (fun c3=> ?_) (fun c3=> ?_)
 ·obtain ⟨e1,e2⟩:=hbad (by omega)
  rw [e1,e2]
  conv=>whnf
  exact ⟨rfl,rfl,trivial⟩
 conv=>whnf
 refine cond_d (fun c4=> ?_) (fun c4=> ?_)
 ·obtain ⟨e1,e2⟩:=hbad (by omega)
  rw [e1,e2]
  conv=>whnf
  exact ⟨rfl,rfl,trivial⟩
 have hg: ¬(c<1∨128<c∨r<1∨128<r):=by omega
 have hcr:0≤c*r∧c*r≤128*128:=⟨Int.mul_nonneg (by omega) (by omega),Int.mul_le_mul (by omega) (by omega) (by omega) (by omega)⟩
 conv=>whnf
 refine sd_d (by omega) ?_
 conv=>whnf
 refine cond_ne (fun c5=> ?_) (fun c5=> ?_)
 ·have e1:prE l c r=9:=by unfold prE;rw [if_neg hg,if_pos (by rw [hll] at c5;exact c5)]
  have e2:prT l c r=emp:=by unfold prT;rw [if_neg (by rw [e1];decide)]
  rw [e1,e2]
  conv=>whnf
  exact ⟨rfl,rfl,trivial⟩
 rw [hll] at c5
 have hm: ¬(l.length:Int)≠c*r:=fun h=>h c5
 have hpb:=fun (i:Nat) (hi:i<l.length) (hb:coB l[i] =false)=>prE_bad hg hm hi hb
 obtain ⟨C,rfl⟩: ∃C:Nat,c=C:=⟨c.toNat,by omega⟩
 obtain ⟨R,rfl⟩: ∃R:Nat,r=R:=⟨r.toNat,by omega⟩
 conv=>whnf
 refine loop_intro (fun t=>t==9||t==10||t==13) (fun i:Nat=>⟨fr 76 [(0,.d (.l (dL l))),(1,.d (i64 (C:Int))),(34,.d (.l (dL l))),(35,.d (i64 (dL l).length)),(36,.d (i64 i))], []⟩) (fun i=>i≤l.length∧ ∀j (h:j<l.length),j<i→coB l[j] =true) (fun i=>l.length-i) 0 mixed tOk ⟨by omega,fun j _ hj=>by omega⟩ ?_ ?_
 ·refine weak_r ?_ ?_<;>repeat' (first|exact trivial|exact rfl|apply And.intro)
 ·rintro i ⟨hi,hno⟩
  conv=>whnf
  refine cond_d (fun hlt=> ?_) (fun hge=> ?_)
  ·have hlt':i<l.length:=by omega
   have hsz:=hz _ (List.getElem_mem hlt')
   have hbd:=hb _ (List.getElem_mem hlt')
   have hget:=dL_get hlt'
   have hpb':=hpb i hlt'
   have hstep:coB l[i] =true→ ∀j (h:j<l.length),j<i+1→coB l[j] =true:=fun hh j h hj=>by
    by_cases e:j=i
    ·subst e;exact hh
    ·exact hno j h (by omega)
   have hco:coB l[i] =(decide (okN l[i] =0)&&(decide (0≤l[i].val)&&decide (l[i].val≤1))):=rfl
   generalize l[i] =x at*
   have qx:Q x.val:= .mk hbd (by omega)
   conv=>whnf
   refine idx_intro (rdD x) hget (by omega) (dL_uni l) ?_
   conv=>whnf
   refine callv_data (check_r x hsz) ?_
   conv=>whnf
   refine cond_ne (fun c6=> ?_) (fun c6=> ?_)
   ·have e1:=hpb' (by rw [hco,decide_eq_false c6];rfl)
    have e2:prT l (C:Int) (R:Int)=emp:=by unfold prT;rw [if_neg (by rw [e1];decide)]
    rw [e1,e2]
    conv=>whnf
    refine safe_intro (by kernel_rfl) ?_
    conv=>whnf
    exact ⟨rfl,rfl,trivial⟩
   have hrd:=co_rd c6
   rw [decide_eq_true c6] at hco
   have hsg:Fun Tryz.prog 33 [rdD x] [i64 (sgnI x.val)] :=by rw [hrd];exact sign_q qx
   have hcm:Fun Tryz.prog 34 [rdD x,ratD 1] [i64 (cmpI x.val 1)] :=by rw [hrd];exact cmp_q qx q1
   conv=>whnf
   refine callv_data hsg ?_
   conv=>whnf
   refine cond_d (fun c7=> ?_) (fun c7=> ?_)
   ·have c7':=sgnI_neg.1 c7
    have e1:=hpb' (by rw [hco,decide_eq_false (show¬0≤x.val by grind)];rfl)
    have e2:prT l (C:Int) (R:Int)=emp:=by unfold prT;rw [if_neg (by rw [e1];decide)]
    rw [e1,e2]
    conv=>whnf
    refine safe_intro (by kernel_rfl) ?_
    conv=>whnf
    exact ⟨rfl,rfl,trivial⟩
   have c7':0≤x.val:=by
    have:=fun h=>c7 (sgnI_neg.2 h)
    grind
   rw [decide_eq_true c7'] at hco
   conv=>whnf
   refine callv_data h11 ?_
   conv=>whnf
   refine callv_data hcm ?_
   conv=>whnf
   refine safe_intro (by kernel_rfl) ?_
   conv=>whnf
   refine cond_d (fun c8=> ?_) (fun c8=> ?_)
   ·have c8':=cmpI_pos.1 c8
    have e1:=hpb' (by rw [hco,decide_eq_false (show¬x.val≤1 by grind)];rfl)
    have e2:prT l (C:Int) (R:Int)=emp:=by unfold prT;rw [if_neg (by rw [e1];decide)]
    rw [e1,e2]
    conv=>whnf
    exact ⟨rfl,rfl,trivial⟩
   have c8':x.val≤1:=by
    have:=fun h=>c8 (cmpI_pos.2 h)
    grind
   rw [decide_eq_true c8'] at hco
   have hst:=hstep hco
   conv=>whnf
   refine sd_d (by omega) ?_
   conv=>whnf
   refine ⟨i+1,⟨by omega,hst⟩,by omega, ?_⟩
   rw [Int.natCast_succ]
   refine weak_dead 0 rfl ?_
   refine weak_r ?_ ?_<;>repeat' (first|exact trivial|exact rfl|apply And.intro)
  ·have hiE:i=l.length:=by omega
   subst hiE
   have hall: ∀x∈l,coB x=true:=fun x hx=>by
    obtain ⟨j,hj,rfl⟩:=List.getElem_of_mem hx
    exact hno j hj hj
   have e1:prE l (C:Int) (R:Int)=0:=by
    unfold prE
    rw [if_neg hg,if_neg hm,if_pos (List.all_eq_true.2 hall)]
   have e2:prT l (C:Int) (R:Int)=bytS (prB (l.map RD.val) C l.length):=by
    unfold prT;rw [if_pos e1];rfl
   have hlen':l.length=C*R:=by exact_mod_cast c5
   rw [hlen'] at e2
   rw [e1,e2]
   have hco: ∀x∈l,okN x=0∧0≤x.val∧x.val≤1:=fun x hx=>by
    have:=hall x hx
    unfold coB at this
    rw [Bool.and_eq_true,Bool.and_eq_true,decide_eq_true_eq,decide_eq_true_eq,decide_eq_true_eq] at this
    exact this
   have hdq:dL l=qL (l.map RD.val):=by
    unfold dL qL
    rw [List.map_map]
    exact List.map_congr_left fun x hx=>co_rd (hco x hx).1
   have hvl:(l.map RD.val).length=C*R:=by rw [List.length_map,hlen']
   have hvs: ∀v∈l.map RD.val,Bd n v∧0≤v∧v≤1:=fun v hv=>by
    obtain ⟨x,hx,rfl⟩:=List.mem_map.1 hv
    exact ⟨hb x hx,(hco x hx).2⟩
   rw [hdq]
   have hCR:C*R≤100000:=by omega
   generalize l.map RD.val=vs at*
   have hC:1≤C∧C≤128:=by omega
   have hR:1≤R∧R≤128:=by omega
   have hql:(qL vs).length=C*R:=by rw [List.length_map];exact hvl
   conv=>whnf
   refine call_data rfl rfl (chunkn_c vs C hC.1) ?_
   conv=>whnf
   refine okc_own 0 0 5 1 1 ?_
   refine range_intro (g:=190) (cap:= [.d (.p 0 [.l (qL vs)]),.d (.p 0 [i64 (C:Int)])]) (fun t=>t==9||t==10||t==13) mixed tOk rfl rfl rfl rfl rfl ?_
   conv=>whnf
   refine loop_introI (fun t=>t==9||t==10||t==13) 4 (fun k:Nat=>prSt vs C k) (fun k=>k≤R) (fun k=>R-k) 0 mixed tOk (by omega) ?_ ?_
   ·unfold prSt
    rw [show C*0=0 from rfl,show prB vs C 0= [] from rfl]
    refine weak_l ?_ ?_<;>repeat' (first|exact trivial|exact rfl|apply And.intro)
   ·intro k hk
    conv=>whnf
    refine cond_d (fun hlt=> ?_) (fun hge=> ?_)
    ·have hkR:k<R:=by
      refine Classical.byContradiction fun h=> ?_
      have:C*R≤C*k:=Nat.mul_le_mul_left _ (by omega)
      omega
     have hk1:C*(k+1)≤C*R:=Nat.mul_le_mul_left _ (by omega)
     have hk2:C*(k+1)=C*k+C:=Nat.mul_succ _ _
     have hc27:Tryz.prog.cellsOf 27=3:=by kernel_rfl
     have hsl:(subL (qL vs) ((C*k:Nat):Int).toNat ((qL vs).length:Int).toNat).length=C*R-C*k:=by
      unfold subL
      rw [List.length_drop,List.length_take]
      omega
     have hmin:(if ((subL (qL vs) ((C*k:Nat):Int).toNat ((qL vs).length:Int).toNat).length:Int)<(C:Int) then ((subL (qL vs) ((C*k:Nat):Int).toNat ((qL vs).length:Int).toNat).length:Int) else (C:Int))=(C:Int):=by
      rw [hsl,if_neg (by omega)]
     conv=>whnf
     refine sd_du (by omega) (qL_uni _) ?_
     conv=>whnf
     refine safe_intro (by kernel_rfl) ?_
     conv=>whnf
     refine okc_intro (ok_ops ?_)
     refine okOps_go (fun t=>t==9||t==10||t==13) tOk rfl ?_
     conv=>whnf
     rw [hmin]
     refine okOps_go (fun t=>t==9||t==10||t==13) tOk rfl ?_
     conv=>whnf
     refine okOps_go (fun t=>t==9||t==10||t==13) tOk rfl ?_
     conv=>whnf
     refine okOps_go (fun t=>t==9||t==10||t==13) tOk rfl ?_
     conv=>whnf
     refine okOps_go (fun t=>t==9||t==10||t==13) tOk rfl ?_
     conv=>whnf
     refine okOps_go (fun t=>t==9||t==10||t==13) tOk rfl ?_
     conv=>whnf
     refine sd_d (by omega) ?_
     conv=>whnf
     refine okOps_go (fun t=>t==9||t==10||t==13) tOk rfl ?_
     conv=>whnf
     refine okOps_go (fun t=>t==9||t==10||t==13) tOk rfl ?_
     conv=>whnf
     refine okOps_go (fun t=>t==9||t==10||t==13) tOk rfl ?_
     conv=>whnf
     refine sd_d (by omega) ?_
     conv=>whnf
     refine okOps_cons rfl (okOp_sl3 (l:=C*k) (h:=C*k+C) (mm:=C*k+C) (xs:=qL vs) (ee:=27) rfl rfl rfl rfl rfl Tryz.underlying34 (by rw [hc27];decide) (by rw [hc27];exact qL_uni _) (by omega) (by omega) (by omega) ?_)
     have hsub:subL (qL vs) (C*k) (C*k+C)=qL ((vs.drop (C*k)).take C):=by
      unfold subL
      rw [List.drop_take,show C*k+C-C*k=C by omega]
      simp only [List.map_drop,List.map_take]
     rw [hsub]
     have hrl:((vs.drop (C*k)).take C).length=C:=by rw [List.length_take,List.length_drop];omega
     have hrg: ∀j (h:j<((vs.drop (C*k)).take C).length),((vs.drop (C*k)).take C)[j] =vs.getD (C*k+j) 0∧Bd n (vs.getD (C*k+j) 0)∧0≤vs.getD (C*k+j) 0∧vs.getD (C*k+j) 0≤1:=fun j h=>by
      have hj:C*k+j<vs.length:=by omega
      have e:vs.getD (C*k+j) 0=vs[C*k+j] :=by rw [List.getD_eq_getElem?_getD,List.getElem?_eq_getElem hj];rfl
      rw [e]
      refine ⟨by rw [List.getElem_take,List.getElem_drop],hvs _ (List.getElem_mem _)⟩
     generalize (vs.drop (C*k)).take C=row at*
     refine okOps_go (fun t=>t==9||t==10||t==13) tOk rfl ?_
     conv=>whnf
     refine call_yield (fun t=>t==9||t==10||t==13) mixed tOk rfl rfl rfl ?_
     conv=>whnf
     refine okc_go (fun t=>t==9||t==10||t==13) mixed tOk ?_
     conv=>whnf
     have hrql:(qL row).length=C:=by rw [List.length_map];exact hrl
     refine loop_introD (fun t=>t==9||t==10||t==13) (fun j:Nat=>prS2 vs row C k j) (fun j=>j≤C) (fun j=>C-j) 0 mixed tOk (by omega) ?_ ?_
     ·unfold prS2
      rw [rwB_zero]
      refine weak_l ?_ ?_<;>repeat' (first|exact trivial|exact rfl|apply And.intro)
     ·intro j hj
      conv=>whnf
      refine cond_d (fun hlt2=> ?_) (fun hge2=> ?_)
      ·have hj':j<row.length:=by omega
       obtain ⟨g1,g2,g3,g4⟩:=hrg j hj'
       have hget:=qL_get hj'
       rw [g1] at hget
       have hrs:=rwB_succ vs C k j
       have hru:=rwB_uni vs C k j
       have hrn:=rwB_len vs C k j
       generalize vs.getD (C*k+j) 0=q at*
       have qq:Q q:= .mk g2 (by omega)
       have qq2:Q (q*((10:Int):Rat)):= .mk (g2.mul (bd_int 10 (n:=1) (by decide))) (by omega)
       generalize rwB vs C k j=P at*
       conv=>whnf
       refine idx_intro (ratD q) hget (by omega) (qL_uni row) ?_
       conv=>whnf
       refine okc_go (fun t=>t==9||t==10||t==13) mixed tOk ?_
       conv=>whnf
       refine callv_data (pchar_c qq qq2 g3 g4) ?_
       conv=>whnf
       refine sd_app hru (by intro x hx;rcases List.mem_singleton.1 hx with rfl;rfl) (by simp only [maxLen,List.length_cons,List.length_nil];omega) ?_
       conv=>whnf
       refine safe_intro (by kernel_rfl) ?_
       conv=>whnf
       refine sd_d (by omega) ?_
       conv=>whnf
       refine ⟨j+1,by omega,by omega, ?_⟩
       unfold prS2
       rw [hrs,Int.natCast_succ]
       unfold chD
       refine weak_dead 4 rfl ?_
       refine weak_l ?_ ?_<;>repeat' (first|exact trivial|exact rfl|apply And.intro)
      ·have hjE:j=C:=by omega
       subst hjE
       have hra:=rwB_all vs (show 0<j by omega) k
       have hru:=rwB_uni vs j k j
       have hrn:=rwB_len vs j k j
       generalize rwB vs j k j=P at*
       conv=>whnf
       refine sd_app hru (by intro x hx;rcases List.mem_singleton.1 hx with rfl;rfl) (by simp only [maxLen,List.length_cons,List.length_nil];omega) ?_
       conv=>whnf
       refine okOps_go (fun t=>t==9||t==10||t==13) tOk rfl ?_
       conv=>whnf
       refine okOps_nil ?_
       conv=>whnf
       refine sd_d (by omega) ?_
       conv=>whnf
       refine ⟨k+1,by omega,by omega, ?_⟩
       unfold prSt
       rw [hra,show ((j*(k+1):Nat):Int)=((j*k:Nat):Int)+(j:Int) by rw [hk2];rfl]
       refine weak_l ?_ ?_<;>repeat' (first|exact trivial|exact rfl|apply And.intro)
    ·have hkR:k=R:=by
      refine Classical.byContradiction fun h=> ?_
      have:C*(k+1)≤C*R:=Nat.mul_le_mul_left _ (by omega)
      have hk2:C*(k+1)=C*k+C:=Nat.mul_succ _ _
      omega
     subst hkR
     have hu8:=prB_u8 vs C (C*k)
     generalize prB vs C (C*k)=P at*
     conv=>whnf
     refine sd_intro hu8 ?_
     conv=>whnf
     refine ⟨?_, ?_,trivial⟩
     ·conv=>whnf
     ·conv=>whnf
end Go.Nv
end
