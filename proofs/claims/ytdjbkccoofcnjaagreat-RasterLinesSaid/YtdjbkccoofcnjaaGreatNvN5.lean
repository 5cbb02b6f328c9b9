import Derived.LoopNIn
import Derived.Test.YtdjbkccoofcnjaaGreatNvN4
set_option linter.all false
set_option maxRecDepth 100000
section
namespace Go.Nv
open Go.RowKit
def renO(t:List B):S→S
 | .own j w=>match tatX t j with
  | .row v _ _ _ _=>match Nat.beq w v with|true=> .own j 0|false=> .top
  | .loop .. =>match Nat.beq w 0 with|true=> .own j 0|false=> .top
  |_=> .top
 | .ptr j w o=>match tatX t j with
  | .row v _ _ _ _=>match Nat.beq w v with|true=> .ptr j 0 o|false=> .top
  | .box _ _=>match Nat.beq w 0 with|true=> .ptr j 0 o|false=> .top
  |_=> .top
 | .d x=> .d x
 |_=> .top
def renN(t:List B):Nat→S→S
 |0,s=>renO t s
 |n+1,s=>match s with
  | .agg cs=>aggS (cs.map (renN t n))
  | .clo g cs=> .clo g (cs.map (renN t n))
  | .tup cs=> .tup (cs.map (renN t n))
  |s=>renO t s
def mapX{α β:Type}(f:α→β):List α→List β
 | [] => []
 |x::xs=>f x::mapX f xs
theorem mapX_eq{α β:Type}(f:α→β)(l:List α):mapX f l=l.map f:=by induction l<;>simp [mapX, *]
def renB(t:List B):B→B
 | .box ty cs=> .box ty (cs.map (renN t 2))
 | .ghost cs=> .ghost (mapX (renN t 3) cs)
 | .loop s pend ps asg body cs=> .loop s pend ps asg body (mapX (renN t 3) cs)
 | .row _ e s b xs=> .row 0 e s b xs
 |b=>b
def trimD:List B→List B
 | [] => []
 |b::t=>match trimD t with
  | [] =>match b with
   | .dead=> []
   |b=> [b]
  |x::t'=>b::x::t'
theorem trimD_at: ∀(l:List B) (j:Nat),tat (trimD l) j=tat l j∨(tat l j= .dead∧tat (trimD l) j= .gone)
 | [],j=> .inl rfl
 |b::t,j=>by
  have h0:tat (b::t) 0=b:=rfl
  have hs: ∀j,tat (b::t) (j+1)=tat t j:=fun j=>by simp [tat]
  unfold trimD
  cases ht:trimD t with
  |nil=>
   have ih:=trimD_at t
   rw [ht] at ih
   have hn: ∀j,tat ([] :List B) j= .gone:=fun j=>by simp [tat]
   have h1: ∀j,tat t j= .gone∨tat t j= .dead:=fun j=>by
    rcases ih j with h|⟨h,_⟩
    ·rw [hn] at h;exact .inl h.symm
    ·exact .inr h
   simp only
   split
   ·cases j with
    |zero=>exact .inr ⟨h0,hn 0⟩
    |succ j=>
     rw [hs,hn]
     rcases h1 j with h|h
     ·exact .inl h.symm
     ·exact .inr ⟨h,rfl⟩
   ·cases j with
    |zero=>exact .inl rfl
    |succ j=>
     have:tat [b] (j+1)= .gone:=by simp [tat]
     rw [hs,this]
     rcases h1 j with h|h
     ·exact .inl h.symm
     ·exact .inr ⟨h,rfl⟩
  |cons x t'=>
   simp only
   cases j with
   |zero=>exact .inl rfl
   |succ j=>
    have:tat (b::x::t') (j+1)=tat (x::t') j:=by simp [tat]
    rw [hs,this, ←ht]
    exact trimD_at t j
theorem renB_at(t0 t:List B)(j:Nat):tat (mapX (renB t0) t) j=renB t0 (tat t j):=by
 rw [mapX_eq]
 unfold tat
 rw [List.getD_eq_getElem?_getD,List.getElem?_map,List.getD_eq_getElem?_getD]
 cases t[j]? with
 |none=>rfl
 |some b=>rfl
section
variable {W:World} {old bs:Nat→Prop} {ι:Nat→Value} {t:List B}
theorem ver_now{t:List B}{j v:Nat}(hd:renB t (tat t j)≠ .dead)(h:(renB t (tat t j)).ver=some (some v)):verT (tat (trimD (mapX (renB t) t))) j=some (some v):=by
 unfold verT
 rcases trimD_at (mapX (renB t) t) j with hq|⟨hq,_⟩
 ·rw [hq,renB_at];exact h
 ·rw [renB_at] at hq;exact absurd hq hd
theorem ren_den(hT:TOk W old bs ι (tat t)): ∀(n:Nat) (s:S) (v:Value),SDen W ι (verT (tat t)) (okT bs (tat t) ι) s v→SDen W ι (verT (tat (trimD (mapX (renB t) t)))) (okT bs (tat (trimD (mapX (renB t) t))) ι) (renN t n s) v:=by
 have hlive: ∀j,(tat (trimD (mapX (renB t) t)) j).live=(tat t j).live:=by
  intro j
  rcases trimD_at (mapX (renB t) t) j with h|⟨h1,h2⟩
  ·rw [h,renB_at];cases tat t j<;>rfl
  ·rw [h2]
   rw [renB_at] at h1
   cases hq:tat t j<;>rw [hq] at h1<;>simp [renB] at h1<;>rfl
 have hokT:okT bs (tat (trimD (mapX (renB t) t))) ι=okT bs (tat t) ι:=by
  funext b;unfold okT;simp only [hlive]
 rw [hokT]
 have hO: ∀(s:S) (v:Value),SDen W ι (verT (tat t)) (okT bs (tat t) ι) s v→SDen W ι (verT (tat (trimD (mapX (renB t) t)))) (okT bs (tat t) ι) (renO t s) v:=by
  intro s v hs
  unfold renO
  split
  ·rename_i j w
   rw [tatX_eq]
   split
   ·rename_i v' e sz b xs hk
    split
    ·rename_i h1
     have h1:=Nat.eq_of_beq_eq_true h1
     subst h1
     have:=sd_own hs (verT_row hk)
     exact .own (seen_now (ver_now (by rw [hk];simp [renB]) (by rw [hk];simp [renB,B.ver]))) fun _=>this
    ·exact .top
   ·rename_i hk
    split
    ·rename_i h1
     have h1:=Nat.eq_of_beq_eq_true h1
     subst h1
     have:=sd_own hs (by simp [verT,hk,B.ver])
     exact .own (seen_now (ver_now (by rw [hk];simp [renB]) (by rw [hk];simp [renB,B.ver]))) fun _=>this
    ·exact .top
   ·exact .top
  ·rename_i j w o
   rw [tatX_eq]
   split
   ·rename_i v' e sz b xs hk
    split
    ·rename_i h1
     have h1:=Nat.eq_of_beq_eq_true h1
     subst h1
     have:=sd_ptr hs (verT_row hk)
     exact .ptr (seen_now (ver_now (by rw [hk];simp [renB]) (by rw [hk];simp [renB,B.ver]))) fun _=>this
    ·exact .top
   ·rename_i bt cs hk
    split
    ·rename_i h1
     have h1:=Nat.eq_of_beq_eq_true h1
     subst h1
     have:=sd_ptr hs (by simp [verT,hk,B.ver])
     exact .ptr (seen_now (ver_now (by rw [hk];simp [renB]) (by rw [hk];simp [renB,B.ver]))) fun _=>this
    ·exact .top
   ·exact .top
  ·cases hs with
   |d h=>exact .d h
  ·exact .top
 intro n
 induction n with
 |zero=>exact hO
 |succ n ih=>
  have hL: ∀(ss:List S) (us:List Value),SDenL W ι (verT (tat t)) (okT bs (tat t) ι) ss us→SDenL W ι (verT (tat (trimD (mapX (renB t) t)))) (okT bs (tat t) ι) (ss.map (renN t n)) us:=by
   intro ss us h
   refine ⟨by simp [h.1],fun i c u hc hu=> ?_⟩
   rw [List.getElem?_map] at hc
   cases hq:ss[i]? with
   |none=>simp [hq] at hc
   |some q=>simp [hq] at hc;subst hc;exact ih _ _ (h.2 i q u hq hu)
  intro s v hs
  unfold renN
  split
  ·rename_i cs
   obtain ⟨us,rfl,h2,h3⟩:=sd_agg hs
   exact allD_of (hL _ _ h2) h3
  ·rename_i g cs
   cases hs with
   |clo hl hh=>
    have:=hL _ _ ⟨hl,hh⟩
    exact .clo this.1 this.2
  ·rename_i cs
   obtain ⟨us,rfl,h2⟩:=sd_tup hs
   have:=hL _ _ h2
   exact .tup this.1 this.2
  ·exact hO _ _ hs
theorem weak_ren(env:List S)(t:List B):Weak ⟨env,t⟩ ⟨mapX (renN t 3) env,trimD (mapX (renB t) t)⟩:=by
 intro old bs w0 a W ι hr
 have hd:=ren_den (t:=t) hr.tok
 have hlive: ∀j,(tat (trimD (mapX (renB t) t)) j).live=(tat t j).live:=by
  intro j
  rcases trimD_at (mapX (renB t) t) j with h|⟨h1,h2⟩
  ·rw [h,renB_at];cases tat t j<;>rfl
  ·rw [h2]
   rw [renB_at] at h1
   cases hq:tat t j<;>rw [hq] at h1<;>simp [renB] at h1<;>rfl
 have hokT:okT bs (tat (trimD (mapX (renB t) t))) ι=okT bs (tat t) ι:=by
  funext b;unfold okT;simp only [hlive]
 have hL: ∀{cs:List S} {us:List Value},SDenL W ι (verT (tat t)) (okT bs (tat t) ι) cs us→SDenL W ι (verT (tat (trimD (mapX (renB t) t)))) (okT bs (tat (trimD (mapX (renB t) t))) ι) (mapX (renN t 3) cs) us:=by
  intro cs us ho
  rw [show mapX (renN t 3) cs=cs.map (renN t 3) from mapX_eq _ _]
  refine ⟨by simp [ho.1],fun i c u hc hu=> ?_⟩
  rw [List.getElem?_map] at hc
  cases hq:cs[i]? with
  |none=>simp [hq] at hc
  |some q=>simp [hq] at hc;subst hc;exact hd 3 _ _ (ho.2 i q u hq hu)
 have hloop: ∀j,(tat (trimD (mapX (renB t) t)) j).isLoop=true→(tat t j).isLoop=true:=by
  intro j hj
  rcases trimD_at (mapX (renB t) t) j with h|⟨h1,h2⟩
  ·rw [h,renB_at] at hj;cases hq:tat t j<;>rw [hq] at hj<;>simp_all [renB,B.isLoop]
  ·rw [h2] at hj;simp [B.isLoop] at hj
 refine ⟨ι,hr.defers,hr.oldIn,hr.fr, ?_,hL hr.env,fun j=> ?gh,fun i j hi hj=>hr.lap i j (hloop i hi) (hloop j hj),hr.rnd⟩
 case gh=>
  have hg:=hr.gh j
  show GhOk W old ι (verT (tat (trimD (mapX (renB t) t)))) (okT bs (tat (trimD (mapX (renB t) t))) ι) (w0.gs j) j (tat (trimD (mapX (renB t) t)) j)
  rcases trimD_at (mapX (renB t) t) j with hq|⟨_,hq⟩
  case inr=>rw [hq];trivial
  rw [hq,renB_at]
  rw [show (⟨env,t⟩:St).t=t from rfl] at hg
  cases hb:tat t j with
  |ghost cs=>rw [hb] at hg;exact hL hg
  |loop s pend ps asg body cs=>
   rw [hb] at hg
   obtain ⟨h1,h2,h3,h4,h5⟩:=hg
   exact ⟨h1,by rw [hokT];exact h2,h3,h4,hL h5⟩
  |_=>trivial
 ·refine ⟨hr.tok.bsn,fun j=> ?_,fun i j b hi hj=>by
   simp only [hlive] at hi hj;exact hr.tok.apart i j b hi hj⟩
  have he:=hr.tok.ent j
  show EntOk W old ι (verT (tat (trimD (mapX (renB t) t)))) (okT bs (tat (trimD (mapX (renB t) t))) ι) j (tat (trimD (mapX (renB t) t)) j)
  rcases trimD_at (mapX (renB t) t) j with hq|⟨_,hq⟩
  case inr=>rw [hq];trivial
  rw [hq,renB_at]
  cases hb:tat t j with
  |box ty cs=>
   rw [show (⟨env,t⟩:St).t=t from rfl,hb] at he
   obtain ⟨b,us,h1,h2,h3,h4,h5⟩:=he
   refine ⟨b,us,h1,h2,h3,⟨by simp [h4.1],fun i c u hc hu=> ?_⟩,h5⟩
   rw [List.getElem?_map] at hc
   cases hq:cs[i]? with
   |none=>simp [hq] at hc
   |some q=>simp [hq] at hc;subst hc;exact hd 2 _ _ (h4.2 i q u hq hu)
  |row v e s b xs=>
   rw [show (⟨env,t⟩:St).t=t from rfl,hb] at he
   rw [hokT];exact he
  |dead=>trivial
  |ghost cs=>trivial
  |loop=>rw [show (⟨env,t⟩:St).t=t from rfl,hb] at he;exact he
  |gone=>trivial
theorem weak_r{env env':List S}{t t':List B}(ht:leT (trimD (mapX (renB t) t)) t')(h:leX (mapX (renN t 3) env) env'):Weak ⟨env,t⟩ ⟨env',t'⟩:=(weak_ren env t).trans (weak_x ht h)
end
section
variable {P:Program} {st:St} {K:St→Prop} {f:Operand} {args:List Operand} {dst:Option Tmp} {g:FuncId} {cap ds as res:List D}
theorem call_eq(hf:evx st.env f= .d (.f g cap))(hd:allD (args.map (evx st.env))=some ds)(h:Fun P g as res)(he:ds++cap=as)(hk:K ⟨putx st.env dst (resS res),st.t⟩):CallK P f args dst st K:=by
 subst he;exact call_data hf hd h hk
theorem callv_eq{t:List B}{K:Look→S→Option (Nat×B)→Prop}(h:Fun P g as res)(he:ds=as)(k:K ⟨[],none⟩ (resS res) none):CallV P g ds t K:=by
 subst he;exact callv_data h k
end
end Go.Nv
end
section
namespace Go.Nv
open Go.RowKit
def resSx(T:Tb)(st:St):ResultVar→Option S
 | .tmp k=>some (lk st.env k)
 | .cell k ty=>match tinfo T ty with
  |some i=>match lk st.env k with
   | .ptr b ver off=>match tatX st.t b with
    | .box _ cs=>match Nat.beq ver 0 with|true=>partSX i cs off|false=>none
    |_=>none
   | .d (.p off cs)=>match partX i cs off with|some d=>some (.d d)|none=>none
   |_=>none
  |none=>none
def resSL(T:Tb)(st:St):List ResultVar→Option (List S)
 | [] =>some []
 |r::rs=>match resSx T st r with|some s=>(match resSL T st rs with|some ss=>some (s::ss)|none=>none)|none=>none
def tupS:List S→S
 | [s] =>s
 |ss=> .tup ss
def inlK(T:Tb)(rs:List ResultVar)(k:Nat)(dst:Option Tmp)(K:St→Prop)(e:Ex)(st:St):Prop:=
 match e with
 | .exit _=>False
 |_=>match resSL T st rs with
  |some ss=>match tatX st.t k with
   | .ghost cs=>frc ⟨putx cs dst (tupS ss),tputX st.t k .dead⟩ K
   |_=>False
  |none=>False
def calleeOf(f:S):Option (FuncId×List S):=match f with
 | .d (.f g cap)=>some (g,argsX cap)
 | .clo g cap=>some (g,cap)
 |_=>none
section
variable {P:Program} {T:Tb} {old bs:Nat→Prop} {w0:Ctx} {W:World} {ι:Nat→Value}
theorem resSx_sound(hT:TbOk P T){st:St}{a:Act}(h:Rel old bs w0 ι st a W){r:ResultVar}{s:S}(hr:resSx T st r=some s):
  ∃v,(resSem a.tmps r).run P W= .ok v W∧SDen W ι (verT (tat st.t)) (okT bs (tat st.t) ι) s v:=by
 cases r with
 |tmp k=>
  have hs:=h.ev (.tmp k)
  simp only [resSx,Option.some.injEq] at hr
  subst hr
  rw [lk_eq]
  exact ⟨a.tmps.getD k undef,rfl,hs⟩
 |cell k ty=>
  have hs:=h.ev (.tmp k)
  simp only [resSx] at hr
  simp only [ev,Act.eval] at hs
  rw [lk_eq,tatX_eq] at hr
  split at hr
  ·rename_i i hi
   have hi:=hT ty i hi
   split at hr
   ·rename_i b ver off hb
    rw [hb] at hs
    split at hr
    ·rename_i bt cs hk
     split at hr
     ·rename_i hver
      have hver:=Nat.eq_of_beq_eq_true hver
      subst hver
      rw [partSX_eq hi] at hr
      obtain ⟨b',hb',hv⟩:=sd_ptr hs (by simp [verT,hk,B.ver])
      have he:=h.tok.ent b
      rw [hk] at he
      obtain ⟨b2,us,hi2,_,hh,hsd,h1⟩:=he
      rw [hi2] at hb';simp [blk] at hb';subst hb'
      obtain ⟨v,hrun,hsv⟩:=lvar_slots (P:=P) hi.und (box_cells hh) hsd h1 hr
      exact ⟨v,by simp [resSem,hv,asAddr,hrun],hsv⟩
     ·simp at hr
    ·simp at hr
   ·rename_i off cs hb
    rw [hb] at hs
    obtain ⟨b,base,us,hv,_,hok,hc,hd,h1⟩:=sd_p hs
    split at hr
    ·rename_i d hp
     rw [partX_eq hi] at hp
     simp at hr;subst hr
     obtain ⟨v,hrun,hdv⟩:=lvar_data (P:=P) hi.und hc hd h1 hp
     exact ⟨v,by simp [resSem,hv,asAddr,hrun],.d hdv⟩
    ·simp at hr
   ·simp at hr
  ·simp at hr
theorem resSL_sound(hT:TbOk P T){st:St}{a:Act}(h:Rel old bs w0 ι st a W): ∀{rs:List ResultVar} {ss:List S},resSL T st rs=some ss→
  ∃vs,(rs.mapM (resSem a.tmps)).run P W= .ok vs W∧SDenL W ι (verT (tat st.t)) (okT bs (tat st.t) ι) ss vs
 | [],ss,hr=>by simp [resSL] at hr;subst hr;exact ⟨[],by simp,SDenL.nil _ _ _ _⟩
 |r::rs,ss,hr=>by
  unfold resSL at hr
  split at hr
  ·rename_i s hs
   split at hr
   ·rename_i ss' hss
    simp at hr;subst hr
    obtain ⟨v,h1,h2⟩:=resSx_sound hT h hs
    obtain ⟨vs,h3,h4⟩:=resSL_sound hT h hss
    exact ⟨v::vs,by simp [h1,h3],SDenL.cons h2 h4⟩
   ·simp at hr
  ·simp at hr
theorem resS_run(hT:TbOk P T){st:St}{a:Act}(h:Rel old bs w0 ι st a W){fn:Func}{ss:List S}(hr:resSL T st fn.results.toList=some ss):
  ∃v,(results fn a.tmps).run P W= .ok v W∧SDen W ι (verT (tat st.t)) (okT bs (tat st.t) ι) (tupS ss) v:=by
 obtain ⟨vs,hvs,hd⟩:=resSL_sound hT h hr
 have e:results fn a.tmps=(do let vs←fn.results.mapM (resSem a.tmps);pure (if h:vs.size=1 then vs[0] else .tuple vs)):=rfl
 have e2:fn.results.mapM (resSem a.tmps)=List.toArray<$>fn.results.toList.mapM (resSem a.tmps):=by
  rw [Array.mapM_eq_mapM_toList]
 refine ⟨_,by rw [e,e2];simp [hvs];rfl, ?_⟩
 match ss,vs,hd with
 | [d], [v],hd=>exact hd.2 0 d v rfl rfl
 | [], [],hd=>exact .tup hd.1 hd.2
 |d::d'::ds,v::v'::vs,hd=>exact .tup hd.1 hd.2
 | [],v::vs,hd=>have:=hd.1;simp at this
 |d::ds, [],hd=>have:=hd.1;simp at this
 | [d],v::v'::vs,hd=>have:=hd.1;simp at this
 |d::d'::ds, [v],hd=>have:=hd.1;simp at this
theorem dead_step{τ:Nat→B}(hT:TOk W old bs ι τ)(hN:OldIn old W)(k:Nat):StepTo old bs W ι τ W ι (at_ τ k .dead):=by
 have hst:StepTo old bs W ι τ W (at_ ι k (ι k)) (at_ τ k .dead):=by
  refine hT.upd hN k .dead (ι k) (row:=none) ⟨rfl,rfl,rfl,Nat.le_refl _,fun _ _ _=>rfl⟩ (by simp) (by simp [B.live]) (fun c hc=>⟨none,rfl,by simp⟩) (fun _ _ _=>trivial)
 have hι:at_ ι k (ι k)=ι:=by funext j;unfold at_;split<;>simp_all
 rw [hι] at hst
 exact hst
theorem ghost_step{τ:Nat→B}(hT:TOk W old bs ι τ)(hN:OldIn old W)(k:Nat)(hk:τ k= .gone)(cs:List S):TOk W old bs ι (at_ τ k (.ghost cs))∧(∀{ss:List S} {us:List Value},SDenL W ι (verT τ) (okT bs τ ι) ss us→SDenL W ι (verT (at_ τ k (.ghost cs))) (okT bs (at_ τ k (.ghost cs)) ι) ss us)∧VerKeep ι ι (verT τ) (verT (at_ τ k (.ghost cs)))∧okT bs (at_ τ k (.ghost cs)) ι=okT bs τ ι:=by
 have hlive: ∀j,(at_ τ k (.ghost cs) j).live=(τ j).live:=fun j=>by unfold at_;split<;>simp_all [B.live]
 have hokT:okT bs (at_ τ k (.ghost cs)) ι=okT bs τ ι:=by funext b;unfold okT;simp only [hlive]
 have hv:VerKeep ι ι (verT τ) (verT (at_ τ k (.ghost cs))):=by
  intro j c hj
  unfold verT at*
  by_cases e:j=k
  ·subst e;rw [hk] at hj;simp [B.ver] at hj
  ·rw [at_ne _ _ e];exact ⟨c,hj,fun m hm=>⟨m,hm,Nat.le_refl _,fun _=>rfl⟩⟩
 have hkp: ∀{ss:List S} {us:List Value},SDenL W ι (verT τ) (okT bs τ ι) ss us→SDenL W ι (verT (at_ τ k (.ghost cs))) (okT bs (at_ τ k (.ghost cs)) ι) ss us:=fun h=>by
  rw [hokT];exact h.keep (fun _ _ _=>rfl) (fun _ h _=>h) hv
 refine ⟨⟨hT.bsn,fun j=> ?_,fun i j b hi hj=>by rw [hlive] at hi hj;exact hT.apart i j b hi hj⟩,hkp,hv,hokT⟩
 by_cases e:j=k
 ·subst e;rw [at_same];trivial
 ·rw [at_ne _ _ e,hokT]
  exact (hT.ent j).keep (fun _ _ _=>rfl) (fun _ h _=>h) hv rfl (fun _ _ _=>rfl)
theorem TOk.up{old':Nat→Prop}{τ:Nat→B}(h:TOk W old bs ι τ)(h1: ∀b,old b→old' b)(h2: ∀b,old' b→old b∨ ∃o,W.heap[b]? =some o∧isC o=false):TOk W old' bs ι τ:=by
 refine ⟨fun b hb=>h.bsn b fun ho=>hb (h1 b ho),fun k=> ?_,h.apart⟩
 have key: ∀b,(τ k).live=true→blk (ι k)=some b→ ¬old b→ ¬old' b:=fun b hl hb hn ho=>by
  rcases h2 b ho with h3|⟨o,h3,h4⟩
  ·exact hn h3
  ·exact h.nonpriv h3 h4 k hl hb
 have he:=h.ent k
 revert he key
 cases hk:τ k with
 |box t cs=>
  rintro key ⟨b,us,e1,e2,e3⟩
  exact ⟨b,us,e1,key b rfl (by rw [e1];rfl) e2,e3⟩
 |row v e s bt xs=>
  rintro key ⟨us,e1,e2,e3,e4⟩
  exact ⟨us,e1,e2,e3,fun b hb=>key b rfl hb (e4 b hb)⟩
 |dead=>intro _ _;trivial
 |gone=>intro _ _;trivial
 |ghost=>intro _ _;trivial
 |loop=>intro _ h;exact h
theorem TOk.down{old':Nat→Prop}{τ:Nat→B}(h:TOk W old' bs ι τ)(h1: ∀b,old b→old' b)(h2: ∀b,¬old b→bs b):TOk W old bs ι τ:=by
 refine ⟨h2,fun k=> ?_,h.apart⟩
 have he:=h.ent k
 revert he
 cases hk:τ k with
 |box t cs=>
  rintro ⟨b,us,e1,e2,e3⟩
  exact ⟨b,us,e1,fun ho=>e2 (h1 b ho),e3⟩
 |row v e s bt xs=>
  rintro ⟨us,e1,e2,e3,e4⟩
  exact ⟨us,e1,e2,e3,fun b hb ho=>e4 b hb (h1 b ho)⟩
 |dead=>intro _;trivial
 |gone=>intro _;trivial
 |ghost=>intro _;trivial
 |loop=>intro h;exact h
theorem GhOk.oldS{old':Nat→Prop}{vr:Nat→Option (Option Nat)}{ok:Nat→Prop}{g:Gh}{k:Nat}{e:B}(h:GhOk W old ι vr ok g k e)(h1: ∀rec,W.heap[g.l]? =some (.loop rec)→ ¬old g.l→ ¬old' g.l):GhOk W old' ι vr ok g k e:=by
 cases e with
 |loop s pend ps asg body cs=>
  obtain ⟨e1,e2,e3,e4,e5⟩:=h
  exact ⟨e1,e2,e3.imp id (h1 _ e4),e4,e5⟩
 |ghost cs=>exact h
 |_=>trivial
theorem Rel.push{st:St}{a:Act}(hr:Rel old bs w0 ι st a W)(r':Option Nat)(hr': ∀l,r'=some l→bs l∧ ∃rec,W.heap[l]? =some (.loop rec)){env:List S}{tm:Array Value}:
  ∃old' w1,w1.w=W∧w1.r=r'∧(∀b,old b→old' b)∧(∀k,k≠st.t.length→w1.gs k=w0.gs k)∧
  (SDenL W ι (verT (at_ (tat st.t) st.t.length (.ghost st.env))) (okT bs (at_ (tat st.t) st.t.length (.ghost st.env)) ι) env tm.toList→
   Rel old' bs w1 ι ⟨env,tput st.t st.t.length (.ghost st.env)⟩ {tmps:=tm,defers:= [] } W)∧
  ∀{st':St} {a':Act} {W':World} {ι':Nat→Value} {cs:List S},Rel old' bs w1 ι' st' a' W'→tat st'.t st.t.length= .ghost cs→
   Rel old bs w0 ι' ⟨cs,tput st'.t st.t.length .dead⟩ a W'∧ ∀{s:S} {v:Value},SDen W' ι' (verT (tat st'.t)) (okT bs (tat st'.t) ι') s v→SDen W' ι' (verT (tat (tput st'.t st.t.length .dead))) (okT bs (tat (tput st'.t st.t.length .dead)) ι') s v:=by
 obtain ⟨Ds,hd1,hd2,hd3⟩:=hr.defers
 generalize hk:st.t.length=k
 have hgone:tat st.t k= .gone:=by rw [←hk];exact tat_new _
 refine ⟨fun b=>old b∨b∈Ds,⟨W,fun j=>if j=k then ⟨a.tmps.toList,0,0,0⟩ else w0.gs j,r'⟩,rfl,rfl,fun b=> .inl,fun k' hk'=>if_neg hk',fun henv=> ?_,fun {st' a' W' ι' cs} hr' hgk=> ?_⟩
 ·have hat:tat (tput st.t k (.ghost st.env))=at_ (tat st.t) k (.ghost st.env):=tat_tput ..
  obtain ⟨g1,g2,g3,g4⟩:=ghost_step hr.tok hr.oldIn k hgone st.env
  have hup: ∀b,(old b∨b∈Ds)→old b∨ ∃o,W.heap[b]? =some o∧isC o=false:=fun b hb=>hb.imp id fun h=>⟨_,(hd3 b h).2,rfl⟩
  refine ⟨⟨[],rfl,List.nodup_nil,by simp⟩,fun b hb=> ?_,Fr.refl _ _, ?_, ?_,fun j=> ?_,fun i j hi hj hl=> ?_,hr'⟩
  ·rcases hb with h|h
   ·exact hr.oldIn b h
   ·exact (Array.getElem?_eq_some_iff.1 (hd3 b h).2).1
  ·show TOk W _ bs ι (tat (tput st.t k (.ghost st.env)))
   rw [hat];exact g1.up (fun b=> .inl) hup
  ·show SDenL W ι (verT (tat (tput st.t k (.ghost st.env)))) (okT bs (tat (tput st.t k (.ghost st.env))) ι) env tm.toList
   rw [hat];exact henv
  ·show GhOk W _ ι (verT (tat (tput st.t k (.ghost st.env)))) (okT bs (tat (tput st.t k (.ghost st.env))) ι) _ j (tat (tput st.t k (.ghost st.env)) j)
   rw [hat]
   by_cases e:j=k
   ·subst e;rw [at_same];simp only [if_true];exact g2 hr.env
   ·rw [at_ne _ _ e];simp only [if_neg e]
    refine GhOk.oldS (GhOk.keep (ok':=okT bs (at_ (tat st.t) k (.ghost st.env)) ι) (hr.gh j) (fun _ _ _=>rfl) (fun b hb _=>by rw [g4];exact hb) g3 (fun _=>rfl)) fun rec hrec hn=> ?_
    rintro (h|h)
    ·exact hn h
    ·rw [(hd3 _ h).2] at hrec;cases hrec
  ·have hne: ∀i,(tat (tput st.t k (.ghost st.env)) i).isLoop=true→i≠k∧(tat st.t i).isLoop=true:=fun i hi=>by
    rw [hat] at hi
    by_cases e:i=k
    ·subst e;rw [at_same] at hi;simp [B.isLoop] at hi
    ·rw [at_ne _ _ e] at hi;exact ⟨e,hi⟩
   obtain ⟨i1,i2⟩:=hne i hi
   obtain ⟨j1,j2⟩:=hne j hj
   simp only [if_neg i1,if_neg j1] at hl
   exact hr.lap i j i2 j2 hl
 ·have hds:=dead_step hr'.tok hr'.oldIn k
  have hat2:tat (tput st'.t k .dead)=at_ (tat st'.t) k .dead:=tat_tput ..
  have hgk':=hr'.gh k
  rw [hgk] at hgk'
  simp only [GhOk,if_true] at hgk'
  have hdn: ∀b,old b→(old b∨b∈Ds):=fun b=> .inl
  refine ⟨⟨⟨Ds,hd1,hd2,fun D hD=>⟨(hd3 D hD).1,(hr'.fr.block D (.inr hD)).trans (hd3 D hD).2⟩⟩,fun b hb=>hr'.oldIn b (.inl hb),hr.fr.trans ⟨hr'.fr.os,hr'.fr.tape,hr'.fr.output,hr'.fr.size,fun b hb=>hr'.fr.block b (.inl hb),hr'.fr.loops⟩, ?_, ?_,fun j=> ?_,fun i j hi hj hl=> ?_,fun l hl=> ?_⟩,fun hs=> ?_⟩
  ·show TOk W' old bs ι' (tat (tput st'.t k .dead))
   rw [hat2];exact hds.tok.down hdn hr.tok.bsn
  ·show SDenL W' ι' (verT (tat (tput st'.t k .dead))) (okT bs (tat (tput st'.t k .dead)) ι') cs a.tmps.toList
   rw [hat2];exact hds.sdenL hgk'
  ·show GhOk W' old ι' (verT (tat (tput st'.t k .dead))) (okT bs (tat (tput st'.t k .dead)) ι') (w0.gs j) j (tat (tput st'.t k .dead) j)
   rw [hat2]
   by_cases e:j=k
   ·subst e;rw [at_same];trivial
   ·rw [at_ne _ _ e]
    have:=hr'.gh j
    simp only [if_neg e] at this
    exact GhOk.oldS (GhOk.keep this hds.keep hds.ok hds.ver fun _=>rfl) fun rec hrec hn ho=>hn (.inl ho)
  ·have hne: ∀i,(tat (tput st'.t k .dead) i).isLoop=true→i≠k∧(tat st'.t i).isLoop=true:=fun i hi=>by
    rw [hat2] at hi
    by_cases e:i=k
    ·subst e;rw [at_same] at hi;simp [B.isLoop] at hi
    ·rw [at_ne _ _ e] at hi;exact ⟨e,hi⟩
   obtain ⟨i1,i2⟩:=hne i hi
   obtain ⟨j1,j2⟩:=hne j hj
   refine hr'.lap i j i2 j2 ?_
   simp only [if_neg i1,if_neg j1]
   exact hl
  ·obtain ⟨h1,rec,h2⟩:=hr.rnd l hl
   exact ⟨h1,hr'.fr.loops l rec h2⟩
  ·rw [hat2];exact hds.sden hs
theorem wpIn_callI{st:St}{a:Act}{r:Option Nat}{n:Nat}{o:Oper}{f:Operand}{args:List Operand}{g:FuncId}{cap:List S}(h:Rel old bs w0 ι st a W){ts:Array TypeId}(hop:o.op= .call {callee:= .value f,args:=args.toArray,argTypes:=ts})
  (hf:calleeOf (ev st.env f)=some (g,cap)) {R:Ending→World→Prop}
  (hc: ∀us,SDenL W ι (verT (tat st.t)) (okT bs (tat st.t) ι) (args.map (ev st.env)++cap) us→Calls P g us.toArray W R) (hb:HasBody P g)
  {Kw:Act→World→Prop} {Q:Exit→Act→World→Prop} (hR: ∀e W',R e W'→ ∃v,e= .returned v∧Kw (a.put o.dst v) W'):o.wpIn (FW r) n P a W Kw Q:=by
 have hfv:=h.ev f
 obtain ⟨cs,hfe,hcs⟩: ∃us,a.eval f= .func (.func g) #[] (List.toArray us)∧SDenL W ι (verT (tat st.t)) (okT bs (tat st.t) ι) cap us:=by
  unfold calleeOf at hf
  split at hf
  ·rename_i g' cap' he
   simp at hf;obtain ⟨rfl,rfl⟩:=hf
   rw [he] at hfv
   obtain ⟨us,h1,h2⟩:=sd_f hfv
   have e: ∀ds,argsX ds=ds.map .d:=by intro ds;induction ds<;>simp [argsX, *]
   exact ⟨us,h1,by rw [e];exact SDenL.ofDen h2⟩
  ·rename_i g' cap' he
   simp at hf;obtain ⟨rfl,rfl⟩:=hf
   rw [he] at hfv
   generalize a.eval f=q at hfv
   cases hfv with
   |clo hl hh=>exact ⟨_,rfl,hl,hh⟩
  ·simp at hf
 have hargs:SDenL W ι (verT (tat st.t)) (okT bs (tat st.t) ι) (args.map (ev st.env)) (args.map a.eval):=by
  refine ⟨by simp,fun i c u hc hu=> ?_⟩
  rw [List.getElem?_map] at hc hu
  cases hq:args[i]? with
  |none=>simp [hq] at hc
  |some q=>simp [hq] at hc hu;subst hc;subst hu;exact h.ev q
 refine ⟨fun f _=>FW.fn r f, ?_⟩
 rw [Oper.semAt_eq _ _ _ (by rw [hop];simp)]
 have hrun:(execOp a.eval o).run P W= .ok (.enter g ((args.map a.eval++cs).toArray)) W:=by
  obtain ⟨fn,h1,h2,h3⟩:=hb
  obtain ⟨c,h2⟩:=Option.isSome_iff_exists.1 h2
  simp [execOp,hop,resolve,hfe,Deferred.ofValue,invoke,callFunc,h1,h2,h3]
  simp_all
 rw [hrun]
 refine ⟨by simp [FW,Fence.wide], ?_⟩
 refine CallsIn.mono (FW.calls (hc _ (hargs.append hcs))) fun e W' he=> ?_
 obtain ⟨v,rfl,hk⟩:=hR e W' he
 exact hk
theorem call_inl_ok{st:St}{K:St→Prop}{f:Operand}{args:List Operand}{dst:Option Tmp}{g:FuncId}{cap:List S}{fn:Func}{c:Code}(hm:P.follows .mixedOrders=true)(hT:TbOk P T)
  (hcal:calleeOf (evx st.env f)=some (g,cap)) (hf:P.funcs[g]? =some fn) (hb:fn.body=some c) (hn:(fn.name== "runtime.NumGoroutine")=false)
  (h:Ok P c ⟨appX' (appX' (mapX (evx st.env) args) cap) (tops (fn.ntmps-(len' args+len' cap))),tputX st.t (len' st.t) (.ghost st.env)⟩ (inlK T fn.results.toList (len' st.t) dst K)):CallK P f args dst st K:=by
 unfold CallK
 rintro o ⟨ts,ho⟩ rfl
 rw [evx_eq] at hcal
 intro n old bs w0 a W ι Kw Q hr hK
 have happ: ∀xs ys:List S,appX' xs ys=xs++ys:=by intro xs ys;induction xs<;>simp [appX', *]
 refine wpIn_callI hr ho hcal (R:=fun e W'=> ∃v,e= .returned v∧Kw (a.put o.dst v) W') (hc:=fun us hd=> ?_) ⟨fn,hf,by rw [hb];rfl,hn⟩ (fun e W' he=>he)
 refine (callsIn_wide (n:=0)).1 (callsIn_of_wp_marks (F:=FW none) hf hb (FW.fn none g) ?_ rfl)
 rw [happ,happ,mapX_eq,evx_eq,tops_eq,len'_eq,len'_eq,len'_eq,tputX_eq] at h
 obtain ⟨old',w1,hw1,hr1,ho1,hgs,hpush,hpop⟩:=hr.push none (by simp) (env:=args.map (ev st.env)++cap++List.replicate (fn.ntmps-(args.length+cap.length)) .top) (tm:=us.toArray++Array.replicate (fn.ntmps-us.toArray.size) undef)
 have hrel:=hpush (by
  obtain ⟨g1,g2,g3,g4⟩:=ghost_step hr.tok hr.oldIn st.t.length (tat_new _) st.env
  have h1:=g2 hd
  have h2:SDenL W ι (verT (at_ (tat st.t) st.t.length (.ghost st.env))) (okT bs (at_ (tat st.t) st.t.length (.ghost st.env)) ι) (List.replicate (fn.ntmps-(args.length+cap.length)) .top) (List.replicate (fn.ntmps-us.length) undef):=by
   have hl:=hd.1
   simp at hl
   refine ⟨by simp [hl],fun i c u hc hu=> ?_⟩
   rw [List.getElem?_replicate] at hc
   split at hc
   ·simp at hc;subst hc;exact .top
   ·simp at hc
  simpa using h1.append h2)
 have hgo:=h 0 old' bs w1 _ W ι hrel
 rw [hr1] at hgo
 refine wpIn_mono hgo ?_
 rintro e a' W' ⟨x,st',ι',rfl,hfin,hr'⟩
 have hx:x= .ret∨x= .normal:=by cases x<;>simp [inlK] at hfin ⊢
 obtain ⟨ss,cs,hss,hgk,hk⟩: ∃ss cs,resSL T st' fn.results.toList=some ss∧tat st'.t st.t.length= .ghost cs∧K ⟨putE cs o.dst (tupS ss),tput st'.t st.t.length .dead⟩:=by
  have hfin:(match resSL T st' fn.results.toList with
   |some ss=>match tatX st'.t st.t.length with
    | .ghost cs=>frc ⟨putx cs o.dst (tupS ss),tputX st'.t st.t.length .dead⟩ K
    |_=>False
   |none=>False):=by cases x<;>first|exact hfin.elim|exact hfin
  split at hfin
  ·rename_i ss hss
   rw [tatX_eq,tputX_eq,putx_eq] at hfin
   split at hfin
   ·rename_i cs hg
    rw [frc_eq] at hfin
    exact ⟨ss,cs,hss,hg,hfin⟩
   ·exact hfin.elim
  ·exact hfin.elim
 have hout:=hr'.out (n:=0) (P:=P) (fn:=fn) (R:=fun e W'=> ∃v,e= .returned v∧Kw (a.put o.dst v) W') fun W2 hr2=>by
  obtain ⟨v,hrun,hsv⟩:=resS_run hT hr2 hss
  obtain ⟨hp1,hp2⟩:=hpop hr2 hgk
  refine ⟨v,hrun,v,rfl,hK _ _ _ ι' hk ?_⟩
  exact hp1.put (t:=tput st'.t st.t.length .dead) (StepTo.refl hp1.tok) (hp2 hsv)
 rcases hx with rfl|rfl
 ·exact hout
 ·exact hout
end
end Go.Nv
end
section
namespace Go.Nv
open Go.RowKit
def FinO(rs:List ResultVar)(e:TypeId)(size:Nat)(res:List D)(x:Ex)(st:St):Prop:=
 match x with
 | .exit _=>False
 |_=>match rs with
  | [.tmp r] =>match lk st.env r with
   | .own k ver=>match tatX st.t k with
    | .row v e' size' _ xs=>ver=v∧e'=e∧size'=size∧xs=res
    |_=>False
   |_=>False
  |_=>False
theorem funO_of_go{P:Program}{T:Tb}{g:FuncId}{fn:Func}{c:Code}{args res:List D}{e:TypeId}{size:Nat}(mu:Tmp→Bool)(hm:P.follows .mixedOrders=true)(hT:TbOk P T)(hf:P.funcs[g]? =some fn)(hb:fn.body=some c)(hn:(fn.name== "runtime.NumGoroutine")=false)
  (h:go P T mu c (startX args fn.ntmps) (FinO fn.results.toList e size res)):FunO P g args e size res:=by
 have h:=ok_go hm hT c _ _ h
 rw [startX_eq] at h
 refine ⟨⟨fn,hf,by rw [hb];rfl,hn⟩,fun w ok us hd=> ?_⟩
 refine (callsIn_wide (n:=0)).1 (callsIn_of_wp_marks (F:=FW none) hf hb (FW.fn none g) ?_ rfl)
 let old:Nat→Prop:=fun b=>b<w.heap.size
 let bs:Nat→Prop:=fun b=>ok b∨w.heap.size≤b
 have hrel:Rel old bs ⟨w,fun _=>⟨[],0,0,0⟩,none⟩ (fun _=>undef) (startSt args fn.ntmps) {tmps:=us.toArray++Array.replicate (fn.ntmps-us.toArray.size) undef,defers:= [] } w:=rel_start hd
 refine wpIn_mono (h 0 old bs _ _ w _ hrel) ?_
 rintro e' a' W' ⟨x,st,ι,rfl,hfin,hr⟩
 have hx:x= .ret∨x= .normal:=by cases x<;>simp [FinO] at hfin ⊢
 obtain ⟨r,k,ver,bytes,hrs,hlk,hk⟩: ∃r k ver bytes,fn.results.toList= [.tmp r] ∧lk st.env r= .own k ver∧tat st.t k= .row ver e size bytes res:=by
  have hfin:(match fn.results.toList with
   | [.tmp r] =>match lk st.env r with
    | .own k ver=>match tatX st.t k with
     | .row v e' size' _ xs=>ver=v∧e'=e∧size'=size∧xs=res
     |_=>False
    |_=>False
   |_=>False):=by cases x<;>first|exact hfin.elim|exact hfin
  split at hfin
  ·rename_i r hrs
   split at hfin
   ·rename_i k ver hlk
    rw [tatX_eq] at hfin
    split at hfin
    ·rename_i v e' size' bytes xs hk
     obtain ⟨rfl,rfl,rfl,rfl⟩:=hfin
     exact ⟨r,k,ver,bytes,hrs,hlk,hk⟩
    ·exact hfin.elim
   ·exact hfin.elim
  ·exact hfin.elim
 have hout:=hr.out (n:=0) (P:=P) (fn:=fn) (R:=fun e' w'=> ∃v vs,e'= .returned v∧w'.ownsRow w.heap.size e size v res.length vs∧DenL w' (fun b=>(ok b∨w.heap.size≤b)∧blk v≠some b) (flat res) vs∧(∀(i:Nat) (u:Value),vs[i]? =some u→u.oneCell'=true)∧Below w.heap.size w w') fun W2 hr=>by
  have hs:=hr.ev (.tmp r)
  simp only [ev,Act.eval] at hs
  rw [lk_eq] at hlk
  rw [hlk] at hs
  have hv:=sd_own hs (verT_row hk)
  have hrun:(results fn a'.tmps).run P W2= .ok (ι k) W2:=by
   have e1:results fn a'.tmps=(do let vs←fn.results.mapM (resSem a'.tmps);pure (if h:vs.size=1 then vs[0] else .tuple vs)):=rfl
   have e2:fn.results.mapM (resSem a'.tmps)=List.toArray<$>fn.results.toList.mapM (resSem a'.tmps):=by
    rw [Array.mapM_eq_mapM_toList]
   rw [e1,e2,hrs]
   simp [resSem,hv]
  have he:=hr.tok.ent k
  rw [hk] at he
  obtain ⟨vs,ho,hden,h1,hnew⟩:=he
  have hbel:Below w.heap.size w W2:=⟨hr.fr.os,hr.fr.tape,hr.fr.output,hr.fr.size,hr.fr.block⟩
  have hown:W2.ownsRow w.heap.size e size (ι k) res.length vs:=by
   refine ⟨ho.1,ho.2.imp id ?_⟩
   rintro ⟨g',cap',cur,q1,q2,q3⟩
   exact ⟨g',cap',cur,q1,Nat.le_of_not_lt (hnew g' (by rw [q1];rfl)),q3⟩
  have hden':DenL W2 (fun b=>(ok b∨w.heap.size≤b)∧blk (ι k)≠some b) (flat res) vs:=
   hden.keep (fun _ _ _=>rfl) fun b hb _=>⟨hb.1,hb.2 k (by rw [hk];rfl)⟩
  exact ⟨ι k,hrun,ι k,vs,rfl,hown,hden',h1,hbel⟩
 rcases hx with rfl|rfl
 ·exact hout
 ·exact hout
end Go.Nv
end
section
namespace Go.Nv
open Go.RowKit
def apL{α:Type}:List α→List α→List α
 | [],ys=>ys
 |x::xs,ys=>x::apL xs ys
theorem apL_eq{α:Type}(xs ys:List α):apL xs ys=xs++ys:=by induction xs<;>simp [apL, *]
def fl:Code→List Code
 | .seq a b=>apL (fl a) (fl b)
 |c=> [c]
def OkL(P:Program):List Code→St→(Ex→St→Prop)→Prop
 | [],st,K=>K .normal st
 |c::cs,st,K=>Ok P c st (lpX (fun st'=>OkL P cs st' K) K)
def goL(P:Program)(T:Tb)(mu:Tmp→Bool):List Code→St→(Ex→St→Prop)→Prop
 | [],st,K=>K .normal st
 |c::cs,st,K=>go P T mu c st (seqX (goL P T mu cs) K)
section
variable {P:Program} {T:Tb}
theorem Ok.seq{a b:Code}{st:St}{K:Ex→St→Prop}(h:Ok P a st (lpX (fun st'=>Ok P b st' K) K)):Ok P (.seq a b) st K:=by
 intro n old bs w0 A W ι hr
 refine wpIn_seq (wpIn_mono (h n old bs w0 A W ι hr) ?_)
 rintro e a' W' ⟨x',st',ι',rfl,hk,hrel⟩
 cases x' with
 |normal=>exact hk n old bs w0 a' W' ι' hrel
 |exit id=>exact ⟨.exit id,st',ι',rfl,hk,hrel⟩
 |ret=>exact ⟨.ret,st',ι',rfl,hk,hrel⟩
theorem okL_mono: ∀{cs:List Code} {st:St} {K K':Ex→St→Prop},(∀e st,K e st→K' e st)→OkL P cs st K→OkL P cs st K'
 | [],st,K,K',hk,h=>hk _ _ h
 |c::cs,st,K,K',hk,h=>Ok.mono h fun e st' h'=>by
  cases e with
  |normal=>exact okL_mono hk h'
  |exit i=>exact hk _ _ h'
  |ret=>exact hk _ _ h'
theorem okL_append: ∀{xs ys:List Code} {st:St} {K:Ex→St→Prop},OkL P (xs++ys) st K↔OkL P xs st (lpX (fun st'=>OkL P ys st' K) K)
 | [],ys,st,K=>Iff.rfl
 |c::xs,ys,st,K=>by
  constructor
  ·intro h
   refine Ok.mono h fun e st' h'=> ?_
   cases e with
   |normal=>exact okL_append.1 h'
   |exit i=>exact h'
   |ret=>exact h'
  ·intro h
   refine Ok.mono h fun e st' h'=> ?_
   cases e with
   |normal=>exact okL_append.2 h'
   |exit i=>exact h'
   |ret=>exact h'
theorem okL_fl: ∀{c:Code} {st:St} {K:Ex→St→Prop},OkL P (fl c) st K→Ok P c st K:=by
 intro c
 have one: ∀{c:Code} {st:St} {K:Ex→St→Prop},OkL P [c] st K→Ok P c st K:=by
  intro c st K h
  refine Ok.mono h fun e st' h'=> ?_
  cases e<;>exact h'
 induction c with
 |seq a b iha ihb=>
  intro st K h
  unfold fl at h
  rw [apL_eq,okL_append] at h
  refine Ok.seq (Ok.mono (iha h) fun e st' h'=> ?_)
  cases e with
  |normal=>exact ihb h'
  |exit i=>exact h'
  |ret=>exact h'
 |_=>intro st K h;exact one h
theorem okL_go(hm:P.follows .mixedOrders=true)(hT:TbOk P T){mu:Tmp→Bool}: ∀{cs:List Code} {st:St} {K:Ex→St→Prop},goL P T mu cs st K→OkL P cs st K
 | [],st,K,h=>h
 |c::cs,st,K,h=>Ok.mono (ok_go hm hT c _ _ h) fun e st' h'=>by
  cases e with
  |normal=>exact okL_go hm hT h'
  |exit i=>exact h'
  |ret=>exact h'
theorem okL_weak{cs:List Code}{st st':St}{K:Ex→St→Prop}(hw:Weak st st')(h:OkL P cs st' K)(hn:cs≠ []):OkL P cs st K:=by
 cases cs with
 |nil=>exact absurd rfl hn
 |cons c cs=>exact Ok.weak hw h
theorem ok_cut{α:Type}(n:Nat)(mu:Tmp→Bool)(J:α→St)(inv:α→Prop)(hm:P.follows .mixedOrders=true)(hT:TbOk P T){c:Code}{st:St}{K:Ex→St→Prop}(hn:n<(fl c).length)
  (h1:goL P T mu ((fl c).take n) st (lpX (fun st'=> ∃y,inv y∧Weak st' (J y)) K))
  (h2: ∀y,inv y→OkL P ((fl c).drop n) (J y) K):Ok P c st K:=by
 refine okL_fl ?_
 rw [←List.take_append_drop n (fl c),okL_append]
 refine okL_mono (fun e st' hk=> ?_) (okL_go hm hT h1)
 cases e with
 |normal=>
  obtain ⟨y,hy,hw⟩:=hk
  refine okL_weak hw (h2 y hy) ?_
  intro h0
  have:=congrArg List.length h0
  simp at this;omega
 |exit i=>exact hk
 |ret=>exact hk
theorem okL_cut{α:Type}(n:Nat)(mu:Tmp→Bool)(J:α→St)(inv:α→Prop)(hm:P.follows .mixedOrders=true)(hT:TbOk P T){cs:List Code}{st:St}{K:Ex→St→Prop}(hn:n<cs.length)
  (h1:goL P T mu (cs.take n) st (lpX (fun st'=> ∃y,inv y∧Weak st' (J y)) K))
  (h2: ∀y,inv y→OkL P (cs.drop n) (J y) K):OkL P cs st K:=by
 rw [←List.take_append_drop n cs,okL_append]
 refine okL_mono (fun e st' hk=> ?_) (okL_go hm hT h1)
 cases e with
 |normal=>
  obtain ⟨y,hy,hw⟩:=hk
  refine okL_weak hw (h2 y hy) ?_
  intro h0
  have:=congrArg List.length h0
  simp at this;omega
 |exit i=>exact hk
 |ret=>exact hk
theorem fun_of_okX{g:FuncId}{fn:Func}{c:Code}{args res:List D}(hm:P.follows .mixedOrders=true)(hT:TbOk P T)(hf:P.funcs[g]? =some fn)(hb:fn.body=some c)(hn:(fn.name== "runtime.NumGoroutine")=false)
  (h:Ok P c (startX args fn.ntmps) (FinK T fn.results.toList res)):Fun P g args res:=by
 refine FunQ.fn ?_
 have h2:Ok P c (startX args fn.ntmps) (FinQ T fn.results.toList (· =res)):=h.mono fun e st hk=>by
  cases e with
  |exit i=>exact hk
  |normal=>exact ⟨res,hk,rfl⟩
  |ret=>exact ⟨res,hk,rfl⟩
 exact funq_of_ok hm hT hf hb hn h2
theorem loop_ok{α:Type}{st:St}{K:Ex→St→Prop}{body:Code}(I:α→St)(inv:α→Prop)(μ:α→Nat)(x0:α)(h0:inv x0)(hw:Weak st (I x0))
  (h: ∀x,inv x→Ok P body (I x) (lpX (fun st'=> ∃y,inv y∧μ y<μ x∧Weak st' (I y)) K)):OkC P (.loop body) st K:=by
 refine okc_intro (ok_loop (fun x:{x:α//inv x}=>I x.1) (fun x=>μ x.1) ⟨x0,h0⟩ hw ?_)
 rintro ⟨x,hx⟩
 refine (h x hx).mono ?_
 rintro e st' hk
 cases e with
 |normal=>obtain ⟨y,h1,h2,h3⟩:=hk;exact ⟨⟨y,h1⟩,h2,h3⟩
 |exit i=>exact hk
 |ret=>exact hk
end
end Go.Nv
end
section
namespace Go.Nv
open Go.RowKit
def zipS:List Tmp→List S→List S→List S
 |p::ps,x::xs,env=>zipS ps xs (st1 env p x)
 |_,_,env=>env
def rngK(k:Nat)(K:Ex→St→Prop)(e:Ex)(st:St):Prop:=
 match e with
 | .exit _=>False
 |_=>match tatX st.t k with
  | .loop s pend _ _ _ cs=>match s,pend with
   | .ready,none=>frc ⟨cs,tputX st.t k .dead⟩ (K .normal)
   | .done,some (.exit i)=>frc ⟨cs,tputX st.t k .dead⟩ (K (.exit i))
   | .done,some .ret=>frc ⟨cs,tputX st.t k .dead⟩ (K .ret)
   |_,_=>False
  |_=>False
def asgK(k:Nat)(C:St→Prop)(e:Ex)(st:St):Prop:=
 match e with
 | .normal=>match tatX st.t k with
  | .loop s pend ps asg body cs=>match s with
   | .ready=>frc ⟨st.env,tputX st.t k (.loop .busy pend ps asg body cs)⟩ C
   |_=>False
  |_=>False
 |_=>False
def yldK(k kk:Nat)(dst:Option Tmp)(K:St→Prop)(e:Ex)(st:St):Prop:=
 match tatX st.t kk with
 | .ghost env=>match tatX st.t k with
  | .loop s p ps asg body cs=>match s with
   | .busy=>match e with
    | .normal=>frc ⟨putx env dst tt',tputX (tputX st.t k (.loop .ready none ps asg body cs)) kk .dead⟩ K
    | .exit i=>frc ⟨putx env dst ff',tputX (tputX st.t k (.loop .done (some (.exit i)) ps asg body cs)) kk .dead⟩ K
    | .ret=>frc ⟨putx env dst ff',tputX (tputX st.t k (.loop .done (some .ret) ps asg body cs)) kk .dead⟩ K
   |_=>False
  |_=>False
 |_=>False
section
variable {P:Program} {T:Tb} {old bs:Nat→Prop} {w0:Ctx} {W:World} {ι:Nat→Value}
theorem Rel.turnLoop{st:St}{a:Act}(h:Rel old bs w0 ι st a W){k:Nat}{s s':LoopState}{p p':Option Code}{ps:Array Tmp}{asg body:Code}{cs:List S}(hk:tat st.t k= .loop s p ps asg body cs)(hno: ¬old (w0.gs k).l):
  Rel old bs w0 ι ⟨st.env,tput st.t k (.loop s' p' ps asg body cs)⟩ a (W.putObj (w0.gs k).l (.loop {state:=s',pending:=p',fn:=(w0.gs k).fn,tmps:=(w0.gs k).tmps.toArray,params:=ps,assign:=asg,body:=body,defers:=(w0.gs k).D})):=by
 have hg:=h.gh k
 rw [hk] at hg
 obtain ⟨h1,h2,_,h4,h5⟩:=hg
 have ht:Turn (w0.gs k).l W (W.putObj (w0.gs k).l (.loop {state:=s',pending:=p',fn:=(w0.gs k).fn,tmps:=(w0.gs k).tmps.toArray,params:=ps,assign:=asg,body:=body,defers:=(w0.gs k).D})):=
  .putObj h4 rfl rfl fun _ _=>⟨_,rfl⟩
 have hat:tat (tput st.t k (.loop s' p' ps asg body cs))=at_ (tat st.t) k (.loop s' p' ps asg body cs):=tat_tput ..
 have hlive: ∀j,(at_ (tat st.t) k (.loop s' p' ps asg body cs) j).live=(tat st.t j).live:=fun j=>by
  unfold at_;split
  ·rename_i e;subst e;rw [hk];rfl
  ·rfl
 have hver:verT (at_ (tat st.t) k (.loop s' p' ps asg body cs))=verT (tat st.t):=by
  funext j;unfold verT at_;split
  ·rename_i e;subst e;rw [hk];rfl
  ·rfl
 have hokT:okT bs (at_ (tat st.t) k (.loop s' p' ps asg body cs)) ι=okT bs (tat st.t) ι:=by funext b;unfold okT;simp only [hlive]
 have hloop: ∀j,(at_ (tat st.t) k (.loop s' p' ps asg body cs) j).isLoop=(tat st.t j).isLoop:=fun j=>by
  unfold at_;split
  ·rename_i e;subst e;rw [hk];rfl
  ·rfl
 obtain ⟨Ds,hd1,hd2,hd3⟩:=h.defers
 refine ⟨⟨Ds,hd1,hd2,fun D hD=>⟨(hd3 D hD).1,(ht.rest D fun e=> ?_).trans (hd3 D hD).2⟩⟩,h.oldIn.turn ht,h.fr.trans (ht.fr hno), ?_, ?_,fun j=> ?_,fun i j hi hj=> ?_,fun l hl=> ?_⟩
 ·subst e;rw [(hd3 _ hD).2] at h4;cases h4
 ·show TOk _ old bs ι (tat (tput st.t k (.loop s' p' ps asg body cs)))
  rw [hat]
  have hT:=h.tok.turn ht
  refine ⟨hT.bsn,fun j=> ?_,fun i j b hi hj=>by rw [hlive] at hi hj;exact hT.apart i j b hi hj⟩
  rw [hver,hokT]
  have:=hT.ent j
  by_cases e:j=k
  ·subst e;rw [at_same];exact ⟨_,h1⟩
  ·rw [at_ne _ _ e];exact this
 ·show SDenL _ ι (verT (tat (tput st.t k (.loop s' p' ps asg body cs)))) (okT bs (tat (tput st.t k (.loop s' p' ps asg body cs))) ι) st.env a.tmps.toList
  rw [hat,hver,hokT];exact h.env.turn ht
 ·show GhOk _ old ι (verT (tat (tput st.t k (.loop s' p' ps asg body cs)))) (okT bs (tat (tput st.t k (.loop s' p' ps asg body cs))) ι) (w0.gs j) j (tat (tput st.t k (.loop s' p' ps asg body cs)) j)
  rw [hat,hver,hokT]
  by_cases e:j=k
  ·subst e;rw [at_same]
   exact ⟨h1,h2,.inr hno,World.putObj_heap_same (Array.getElem?_eq_some_iff.1 h4).1,h5.turn ht⟩
  ·rw [at_ne _ _ e]
   exact GhOk.turn ht (h.gh j) fun hl he=>e (h.lap j k hl (by rw [hk];rfl) he)
 ·have hi:(tat (tput st.t k (.loop s' p' ps asg body cs)) i).isLoop=true:=hi
  have hj:(tat (tput st.t k (.loop s' p' ps asg body cs)) j).isLoop=true:=hj
  rw [hat,hloop] at hi hj
  exact h.lap i j hi hj
 ·obtain ⟨e1,rec,e2⟩:=h.rnd l hl
  by_cases e:l=(w0.gs k).l
  ·subst e;exact ⟨e1,ht.lp _ h4⟩
  ·exact ⟨e1,rec,(ht.rest l e).trans e2⟩
theorem Rel.pushL{st:St}{a:Act}(hr:Rel old bs w0 ι st a W){l D:Nat}{fn':FuncId}{ps:Array Tmp}{asg body:Code}
  (hl:W.heap[l]? =some (.loop {state:= .ready,pending:=none,fn:=fn',tmps:=a.tmps,params:=ps,assign:=asg,body:=body,defers:=D})) (hno: ¬old l) (hlap: ∀j,(tat st.t j).isLoop=true→(w0.gs j).l≠l)
  {env:List S} {tm:Array Value}:
  ∃old' w1 ι1,w1.w=W∧w1.r=none∧(w1.gs st.t.length).l=l∧(w1.gs st.t.length).tmps=a.tmps.toList∧(w1.gs st.t.length).fn=fn'∧(w1.gs st.t.length).D=D∧ι1 st.t.length= .func (.yield l) #[] #[] ∧
  (∀{s:S} {v:Value},SDen W ι (verT (tat st.t)) (okT bs (tat st.t) ι) s v→SDen W ι1 (verT (at_ (tat st.t) st.t.length (.loop .ready none ps asg body st.env))) (okT bs (at_ (tat st.t) st.t.length (.loop .ready none ps asg body st.env)) ι1) s v)∧
  (SDenL W ι1 (verT (at_ (tat st.t) st.t.length (.loop .ready none ps asg body st.env))) (okT bs (at_ (tat st.t) st.t.length (.loop .ready none ps asg body st.env)) ι1) env tm.toList→
   Rel old' bs w1 ι1 ⟨env,tput st.t st.t.length (.loop .ready none ps asg body st.env)⟩ {tmps:=tm,defers:= [] } W)∧
  ∀{st':St} {a':Act} {W':World} {ι':Nat→Value} {s:LoopState} {p:Option Code} {cs:List S} {ps':Array Tmp} {asg' body':Code},Rel old' bs w1 ι' st' a' W'→tat st'.t st.t.length= .loop s p ps' asg' body' cs→s≠ .busy→
   (∃rec,W'.heap[l]? =some (.loop rec)∧rec.state=s∧rec.pending=p∧Rel old bs w0 ι' ⟨cs,tput st'.t st.t.length .dead⟩ a (W'.putObj l (.loop {rec with state:= .exhausted}))):=by
 obtain ⟨Ds,hd1,hd2,hd3⟩:=hr.defers
 generalize hk:st.t.length=k
 have hgone:tat st.t k= .gone:=by rw [←hk];exact tat_new _
 generalize hnb:B.loop .ready none ps asg body st.env=nb
 have hat:tat (tput st.t k nb)=at_ (tat st.t) k nb:=tat_tput ..
 have hlive: ∀j,(at_ (tat st.t) k nb j).live=(tat st.t j).live:=fun j=>by
  unfold at_;split
  ·rename_i e;subst e;rw [hgone, ←hnb];rfl
  ·rfl
 obtain ⟨ι1,hι1⟩: ∃ι1,ι1=at_ ι k (.func (.yield l) #[] #[]):=⟨_,rfl⟩
 have hi1: ∀j,(tat st.t j).live=true→ι1 j=ι j:=fun j hj=>by
  rw [hι1];refine at_ne _ _ fun e=> ?_
  subst e;rw [hgone] at hj;simp [B.live] at hj
 have hokT:okT bs (at_ (tat st.t) k nb) ι1=okT bs (tat st.t) ι:=by
  funext b;unfold okT;simp only [hlive]
  apply propext
  exact ⟨fun ⟨h1,h2⟩=>⟨h1,fun j hj=>by rw [←hi1 j hj];exact h2 j hj⟩,fun ⟨h1,h2⟩=>⟨h1,fun j hj=>by rw [hi1 j hj];exact h2 j hj⟩⟩
 have hv:VerKeep ι ι1 (verT (tat st.t)) (verT (at_ (tat st.t) k nb)):=by
  intro j c hj
  unfold verT at*
  by_cases e:j=k
  ·subst e;rw [hgone] at hj;simp [B.ver] at hj
  ·rw [at_ne _ _ e];exact ⟨c,hj,fun m hm=>⟨m,hm,Nat.le_refl _,fun _=>by rw [hι1];exact at_ne _ _ e⟩⟩
 have hkp1: ∀{ss:S} {us:Value},SDen W ι (verT (tat st.t)) (okT bs (tat st.t) ι) ss us→SDen W ι1 (verT (at_ (tat st.t) k nb)) (okT bs (at_ (tat st.t) k nb) ι1) ss us:=fun h=>by
  rw [hokT];exact h.keep (fun _ _ _=>rfl) (fun _ h _=>h) hv
 have hkp: ∀{ss:List S} {us:List Value},SDenL W ι (verT (tat st.t)) (okT bs (tat st.t) ι) ss us→SDenL W ι1 (verT (at_ (tat st.t) k nb)) (okT bs (at_ (tat st.t) k nb) ι1) ss us:=fun h=>by
  rw [hokT];exact h.keep (fun _ _ _=>rfl) (fun _ h _=>h) hv
 refine ⟨fun b=>old b∨b∈Ds,⟨W,fun j=>if j=k then ⟨a.tmps.toList,l,fn',D⟩ else w0.gs j,none⟩,ι1,rfl,rfl,by simp,by simp,by simp,by simp,by rw [hι1];exact at_same _ _ _,hkp1,fun henv=> ?_,fun {st' a' W' ι' s p cs ps' asg' body'} hr' hgk hs=> ?_⟩
 ·have hup: ∀b,(old b∨b∈Ds)→old b∨ ∃o,W.heap[b]? =some o∧isC o=false:=fun b hb=>hb.imp id fun h=>⟨_,(hd3 b h).2,rfl⟩
  have hT:TOk W old bs ι1 (at_ (tat st.t) k nb):=by
   refine ⟨hr.tok.bsn,fun j=> ?_,fun i j b hi hj h1 h2=> ?_⟩
   ·by_cases e:j=k
    ·subst e;rw [at_same, ←hnb];exact ⟨l,by rw [hι1];exact at_same _ _ _⟩
    ·rw [at_ne _ _ e,hokT]
     exact (hr.tok.ent j).keep (fun _ _ _=>rfl) (fun _ h _=>h) hv (by rw [hι1];exact at_ne _ _ e) (fun _ _ _=>rfl)
   ·rw [hlive] at hi hj
    rw [hi1 i hi] at h1;rw [hi1 j hj] at h2
    exact hr.tok.apart i j b hi hj h1 h2
  refine ⟨⟨[],rfl,List.nodup_nil,by simp⟩,fun b hb=> ?_,Fr.refl _ _, ?_, ?_,fun j=> ?_,fun i j hi hj hl'=> ?_,fun l hl=>by cases hl⟩
  ·rcases hb with h|h
   ·exact hr.oldIn b h
   ·exact (Array.getElem?_eq_some_iff.1 (hd3 b h).2).1
  ·show TOk W _ bs ι1 (tat (tput st.t k nb))
   rw [hat];exact hT.up (fun b=> .inl) hup
  ·show SDenL W ι1 (verT (tat (tput st.t k nb))) (okT bs (tat (tput st.t k nb)) ι1) env tm.toList
   rw [hat];exact henv
  ·show GhOk W _ ι1 (verT (tat (tput st.t k nb))) (okT bs (tat (tput st.t k nb)) ι1) _ j (tat (tput st.t k nb) j)
   rw [hat]
   by_cases e:j=k
   ·subst e;rw [at_same, ←hnb];simp only [if_true]
    refine ⟨by rw [hι1];exact at_same _ _ _, ?_,.inr ?_,by simpa using hl, ?_⟩
    ·rw [hnb,hokT];exact hr.tok.okNon hl rfl (hr.tok.bsn _ hno)
    ·rintro (h|h)
     ·exact hno h
     ·rw [(hd3 _ h).2] at hl;cases hl
    ·rw [hnb];exact hkp hr.env
   ·rw [at_ne _ _ e];simp only [if_neg e]
    refine GhOk.oldS (GhOk.keep (ok':=okT bs (at_ (tat st.t) k nb) ι1) (hr.gh j) (fun _ _ _=>rfl) (fun b hb _=>by rw [hokT];exact hb) hv (fun _=>by rw [hι1];exact at_ne _ _ e)) fun rec hrec hn=> ?_
    rintro (h|h)
    ·exact hn h
    ·rw [(hd3 _ h).2] at hrec;cases hrec
  ·have hi:(tat (tput st.t k nb) i).isLoop=true:=hi
   have hj:(tat (tput st.t k nb) j).isLoop=true:=hj
   rw [hat] at hi hj
   by_cases ei:i=k
   ·by_cases ej:j=k
    ·rw [ei,ej]
    ·rw [at_ne _ _ ej] at hj
     simp only [if_pos ei,if_neg ej] at hl'
     exact absurd hl'.symm (hlap j hj)
   ·rw [at_ne _ _ ei] at hi
    by_cases ej:j=k
    ·simp only [if_neg ei,if_pos ej] at hl'
     exact absurd hl' (hlap i hi)
    ·rw [at_ne _ _ ej] at hj
     simp only [if_neg ei,if_neg ej] at hl'
     exact hr.lap i j hi hj hl'
 ·have hgk0:=hr'.gh k
  rw [hgk] at hgk0
  have e0:(if k=k then (⟨a.tmps.toList,l,fn',D⟩:Gh) else w0.gs k)=⟨a.tmps.toList,l,fn',D⟩:=if_pos rfl
  simp only [e0] at hgk0
  obtain ⟨q1,q2,q3,q4,q5⟩:=hgk0
  simp only [if_true] at q1 q2 q3 q4 q5
  have hno': ¬(old l∨l∈Ds):=q3.resolve_left hs
  refine ⟨_,q4,rfl,rfl, ?_⟩
  have h3:=hr'.turnLoop (s':= .exhausted) (p':=p) hgk (by simpa using hno')
  simp only [if_true] at h3
  have hg3:tat (tput st'.t k (.loop .exhausted p ps' asg' body' cs)) k= .loop .exhausted p ps' asg' body' cs:=by rw [tat_tput];exact at_same _ _ _
  generalize hW:W'.putObj l (.loop {state:= .exhausted,pending:=p,fn:=fn',tmps:=a.tmps.toList.toArray,params:=ps',assign:=asg',body:=body',defers:=D})=W3 at h3
  have hds:=dead_step h3.tok h3.oldIn k
  have hat3:tat (tput (tput st'.t k (.loop .exhausted p ps' asg' body' cs)) k .dead)=at_ (tat (tput st'.t k (.loop .exhausted p ps' asg' body' cs))) k .dead:=tat_tput ..
  have hat2:tat (tput st'.t k .dead)=at_ (tat (tput st'.t k (.loop .exhausted p ps' asg' body' cs))) k .dead:=by
   rw [tat_tput,tat_tput]
   funext j
   unfold at_;split<;>rfl
  have hgk':=h3.gh k
  rw [hg3] at hgk'
  simp only [if_true] at hgk'
  have hdn: ∀b,old b→(old b∨b∈Ds):=fun b=> .inl
  refine ⟨⟨Ds,hd1,hd2,fun D' hD=>⟨(hd3 D' hD).1,(h3.fr.block D' (.inr hD)).trans (hd3 D' hD).2⟩⟩,fun b hb=>h3.oldIn b (.inl hb),hr.fr.trans ⟨h3.fr.os,h3.fr.tape,h3.fr.output,h3.fr.size,fun b hb=>h3.fr.block b (.inl hb),h3.fr.loops⟩, ?_, ?_,fun j=> ?_,fun i j hi hj hl=> ?_,fun l hl=> ?_⟩
  ·show TOk W3 old bs ι' (tat (tput st'.t k .dead))
   rw [hat2];exact hds.tok.down hdn hr.tok.bsn
  ·show SDenL W3 ι' (verT (tat (tput st'.t k .dead))) (okT bs (tat (tput st'.t k .dead)) ι') cs a.tmps.toList
   rw [hat2];exact hds.sdenL hgk'.2.2.2.2
  ·show GhOk W3 old ι' (verT (tat (tput st'.t k .dead))) (okT bs (tat (tput st'.t k .dead)) ι') (w0.gs j) j (tat (tput st'.t k .dead) j)
   rw [hat2]
   by_cases e:j=k
   ·subst e;rw [at_same];trivial
   ·rw [at_ne _ _ e]
    have:=h3.gh j
    simp only [if_neg e] at this
    exact GhOk.oldS (GhOk.keep this hds.keep hds.ok hds.ver fun _=>rfl) fun rec hrec hn ho=>hn (.inl ho)
  ·have hne: ∀i,(tat (tput st'.t k .dead) i).isLoop=true→i≠k∧(tat (tput st'.t k (.loop .exhausted p ps' asg' body' cs)) i).isLoop=true:=fun i hi=>by
    rw [hat2] at hi
    by_cases e:i=k
    ·subst e;rw [at_same] at hi;simp [B.isLoop] at hi
    ·rw [at_ne _ _ e] at hi;exact ⟨e,hi⟩
   obtain ⟨i1,i2⟩:=hne i hi
   obtain ⟨j1,j2⟩:=hne j hj
   refine h3.lap i j i2 j2 ?_
   simp only [if_neg i1,if_neg j1]
   exact hl
  ·obtain ⟨h1,rec,h2⟩:=hr.rnd l hl
   exact ⟨h1,h3.fr.loops l rec h2⟩
end
end Go.Nv
end
section
namespace Go.Nv
open Go.RowKit
section
variable {P:Program} {T:Tb} {old bs:Nat→Prop} {w0:Ctx} {W:World} {ι:Nat→Value}
theorem Rel.fval{st:St}{a:Act}(h:Rel old bs w0 ι st a W){f:Operand}{g:FuncId}{cap:List S}(hf:calleeOf (Nv.ev st.env f)=some (g,cap)):
  ∃us,a.eval f= .func (.func g) #[] (List.toArray us)∧SDenL W ι (verT (tat st.t)) (okT bs (tat st.t) ι) cap us:=by
 have hfv:=h.ev f
 unfold calleeOf at hf
 split at hf
 ·rename_i g' cap' he
  simp at hf;obtain ⟨rfl,rfl⟩:=hf
  rw [he] at hfv
  obtain ⟨us,h1,h2⟩:=sd_f hfv
  have e: ∀ds,argsX ds=ds.map .d:=by intro ds;induction ds<;>simp [argsX, *]
  exact ⟨us,h1,by rw [e];exact SDenL.ofDen h2⟩
 ·rename_i g' cap' he
  simp at hf;obtain ⟨rfl,rfl⟩:=hf
  rw [he] at hfv
  generalize a.eval f=q at hfv
  cases hfv with
  |clo hl hh=>exact ⟨_,rfl,hl,hh⟩
 ·simp at hf
theorem Rel.enterLoop{st:St}{a:Act}(h:Rel old bs w0 ι st a W)(fn:FuncId)(ps:Array Tmp)(asg body:Code):
  ∃l mark W1 D,(Instr.enterLoop fn a.tmps ps asg body w0.r).run P W= .ok (l,mark) W1∧W.heap.size≤l∧
   W1.heap[l]? =some (.loop {state:= .ready,pending:=none,fn:=fn,tmps:=a.tmps,params:=ps,assign:=asg,body:=body,defers:=D})∧
   Rel old bs w0 ι st {a with defers:=mark++a.defers} W1∧ ∀f,a.eval f=({a with defers:=mark++a.defers}:Act).eval f:=by
 have fin: ∀(W1:World) (mark:List Deferred),W.grownBy W1 none→DfOk old W1 (mark++a.defers)→Rel old bs w0 ι st {a with defers:=mark++a.defers} W1:=fun W1 mark hg hd=>by
  have hst:=h.tok.quiet h.oldIn hg
  exact ⟨hd,h.oldIn.step hst.fr.size,h.fr.trans hst.fr,hst.tok,hst.sdenL h.env,h.ghStep hst,h.lapStep hst,h.rndStep hst⟩
 obtain ⟨Ds,hd1,hd2,hd3⟩:=h.defers
 cases hr:w0.r with
 |none=>
  refine ⟨W.heap.size+1,_,_,W.heap.size,run_enterLoop_outer _ _ _ _ _,by omega, ?_,fin _ _ ?_ ?_,fun f=>by cases f<;>rfl⟩
  ·have:=World.alloc_heap_new (W.alloc (.deferred (some []))) (.loop {state:= .ready,pending:=none,fn,tmps:=a.tmps,params:=ps,assign:=asg,body,defers:=W.heap.size})
   rwa [World.size_alloc] at this
  ·exact (World.grownBy_alloc W _ none).trans (World.grownBy_alloc _ _ none)
  ·refine ⟨W.heap.size::Ds,by simp [hd1],List.nodup_cons.2 ⟨fun hm=> ?_,hd2⟩,fun D hD=> ?_⟩
   ·have:=(Array.getElem?_eq_some_iff.1 (hd3 _ hm).2).1;omega
   ·have hk: ∀b,b<W.heap.size→((W.alloc (.deferred (some []))).alloc (.loop {state:= .ready,pending:=none,fn,tmps:=a.tmps,params:=ps,assign:=asg,body,defers:=W.heap.size})).heap[b]? =W.heap[b]? :=fun b hb=>
     ((World.grownBy_alloc W (.deferred (some [])) none).trans (World.grownBy_alloc _ _ none)).block b hb (by simp)
    rcases List.mem_cons.1 hD with rfl|hD
    ·refine ⟨fun ho=>absurd (h.oldIn _ ho) (by omega), ?_⟩
     rw [(World.grownBy_alloc (W.alloc (.deferred (some []))) (.loop {state:= .ready,pending:=none,fn,tmps:=a.tmps,params:=ps,assign:=asg,body,defers:=W.heap.size}) none).block _ (by rw [World.size_alloc];omega) (by simp)]
     exact World.alloc_heap_new W _
    ·exact ⟨(hd3 D hD).1,(hk D (Array.getElem?_eq_some_iff.1 (hd3 D hD).2).1).trans (hd3 D hD).2⟩
 |some l0=>
  obtain ⟨_,rec,h2⟩:=h.rnd l0 hr
  refine ⟨W.heap.size,_,_,rec.defers,run_enterLoop_inner h2 _ _ _ _ _,by omega,World.alloc_heap_new W _,fin _ _ (World.grownBy_alloc W _ none) ?_,fun f=>by cases f<;>rfl⟩
  refine ⟨Ds,by simp [hd1],hd2,fun D hD=>⟨(hd3 D hD).1, ?_⟩⟩
  rw [(World.grownBy_alloc W _ none).block _ (Array.getElem?_eq_some_iff.1 (hd3 D hD).2).1 (by simp)]
  exact (hd3 D hD).2
theorem ok_range{st:St}{K:Ex→St→Prop}{f:Operand}{ps:Array Tmp}{asg body:Code}{g:FuncId}{cap:List S}{fn:Func}{c:Code}
  (hcal:calleeOf (evx st.env f)=some (g,cap)) (hf:P.funcs[g]? =some fn) (hb:fn.body=some c) (hn:(fn.name== "runtime.NumGoroutine")=false) (hres:fn.results= #[])
  (h:Ok P c ⟨.own (len' st.t) 0::appX' cap (tops (fn.ntmps-(1+len' cap))),tputX st.t (len' st.t) (.loop .ready none ps asg body st.env)⟩ (rngK (len' st.t) K)):Ok P (.rangeFunc f ps asg body) st K:=by
 intro n old bs w0 a W ι hr
 rw [evx_eq] at hcal
 have happ: ∀xs ys:List S,appX' xs ys=xs++ys:=by intro xs ys;induction xs<;>simp [appX', *]
 rw [happ,tops_eq,len'_eq,len'_eq,tputX_eq] at h
 refine wpIn_rangeFunc (fun fn' _=> ?_)
 obtain ⟨l,mark,W1,D,he,hl1,hl2,hr1,hev⟩:=hr.enterLoop (P:=P) fn' ps asg body
 obtain ⟨us,hfe,hcap⟩:=hr1.fval hcal
 rw [←hev] at hfe
 have hgl: ∀j,(tat st.t j).isLoop=true→(w0.gs j).l≠l:=fun j hj e=>by
  have:=hr.gh j
  cases hq:tat st.t j with
  |loop s pend ps' asg' body' cs=>rw [hq] at this;have:=(Array.getElem?_eq_some_iff.1 this.2.2.2.1).1;omega
  |_=>rw [hq] at hj;simp [B.isLoop] at hj
 have hno: ¬old l:=fun ho=>absurd (hr.oldIn _ ho) (by omega)
 obtain ⟨old',w1,ι1,q1,q2,q3,q4,q5,q6,q7,q8,hpush,hpop⟩:=hr1.pushL hl2 hno hgl (env:= .own st.t.length 0::(cap++List.replicate (fn.ntmps-(1+cap.length)) .top)) (tm:=(#[.func (.yield l) #[] #[]] ++us.toArray)++Array.replicate (fn.ntmps-(#[Value.func (.yield l) #[] #[]] ++us.toArray).size) undef)
 have hrun:(invoke (.fn (.func g) us.toArray) #[.func (.yield l) #[] #[]]).run P W1= .ok (.enter g (#[.func (.yield l) #[] #[]] ++us.toArray)) W1:=by
  simp [invoke,callFunc,hf,hb,hn]
  simp_all
 refine ⟨l,mark,W1,{target:= .fn (.func g) us.toArray,args:= #[.func (.yield l) #[] #[]] },W1,g, #[.func (.yield l) #[] #[]] ++us.toArray,W1,he, ?_,fun f _=>FW.fn _ f,hrun,by simp [FW,Fence.wide], ?_⟩
 ·simp only [resolve,hfe]
  simp [go_sem]
 ·refine CallsIn.mono (R:=rangePost (FW w0.r) n P l (Post old bs w0 K) {a with defers:=mark++a.defers}) (FW.calls ?_) (fun e w' h=>h)
  refine (callsIn_wide (n:=0)).1 (callsIn_of_wp_marks (F:=FW none) hf hb (FW.fn none g) ?_ rfl)
  have hrel:=hpush (by
   refine SDenL.cons (u:= .func (.yield l) #[] #[]) (us:=us++List.replicate (fn.ntmps-(1+us.length)) undef) ?_ ?_|>fun h=>by simpa [Nat.add_comm] using h
   ·exact .own (seen_now (by simp [verT,at_same,B.ver])) fun _=>q7.symm
   ·refine SDenL.append ⟨hcap.1,fun i c u hc hu=>q8 (hcap.2 i c u hc hu)⟩ ⟨by simp [hcap.1];omega,fun i c u hc hu=> ?_⟩
    rw [List.getElem?_replicate] at hc
    split at hc
    ·simp at hc;subst hc;exact .top
    ·simp at hc)
  have hgo:=h 0 old' bs w1 _ W1 ι1 hrel
  rw [q2] at hgo
  refine wpIn_mono hgo ?_
  rintro e a' W' ⟨x,st',ι',rfl,hfin,hr'⟩
  have hx:x= .ret∨x= .normal:=by cases x<;>simp [rngK] at hfin ⊢
  obtain ⟨s,pend,ps',asg',body',cs,hgk,hs,hk⟩: ∃s pend ps' asg' body' cs,tat st'.t st.t.length= .loop s pend ps' asg' body' cs∧s≠ .busy∧
    ((pend=none∧K .normal ⟨cs,tput st'.t st.t.length .dead⟩)∨(∃i,pend=some (.exit i)∧K (.exit i) ⟨cs,tput st'.t st.t.length .dead⟩)∨(pend=some .ret∧K .ret ⟨cs,tput st'.t st.t.length .dead⟩)):=by
   have hfin:(match tatX st'.t st.t.length with
    | .loop s pend _ _ _ cs=>match s,pend with
     | .ready,none=>frc ⟨cs,tputX st'.t st.t.length .dead⟩ (K .normal)
     | .done,some (.exit i)=>frc ⟨cs,tputX st'.t st.t.length .dead⟩ (K (.exit i))
     | .done,some .ret=>frc ⟨cs,tputX st'.t st.t.length .dead⟩ (K .ret)
     |_,_=>False
    |_=>False):=by cases x<;>first|exact hfin.elim|exact hfin
   rw [tatX_eq,tputX_eq] at hfin
   split at hfin
   ·rename_i s pend ps' asg' body' cs hq
    simp only [frc_eq] at hfin
    split at hfin
    ·exact ⟨_,_,_,_,_,_,hq,by simp,.inl ⟨rfl,hfin⟩⟩
    ·exact ⟨_,_,_,_,_,_,hq,by simp,.inr (.inl ⟨_,rfl,hfin⟩)⟩
    ·exact ⟨_,_,_,_,_,_,hq,by simp,.inr (.inr ⟨rfl,hfin⟩)⟩
    ·exact hfin.elim
   ·exact hfin.elim
  have hout:=hr'.out (n:=0) (P:=P) (fn:=fn) (R:=rangePost (FW w0.r) n P l (Post old bs w0 K) {a with defers:=mark++a.defers}) fun W2 hr2=> ?_
  ·rcases hx with rfl|rfl
   ·exact hout
   ·exact hout
  ·obtain ⟨rec,hrec,hs1,hs2,hrf⟩:=hpop hr2 hgk hs
   refine ⟨.tuple #[],by simp [results,hres], ?_⟩
   ·subst hs2
    refine ⟨rec.pending,_,run_endLoop (P:=P) hrec (by rw [hs1];exact hs), ?_⟩
    rcases hk with ⟨e,hk⟩|⟨i,e,hk⟩|⟨e,hk⟩
    ·simp only [e] at hrf ⊢
     exact ⟨.normal,_,ι',rfl,hk,hrf⟩
    ·simp only [e] at hrf ⊢
     exact wpIn_exit ⟨.exit i,_,ι',rfl,hk,hrf⟩
    ·simp only [e] at hrf ⊢
     exact wpIn_ret ⟨.ret,_,ι',rfl,hk,hrf⟩
theorem zipS_den{ι:Nat→Value}{vr:Nat→Option (Option Nat)}{ok:Nat→Prop}: ∀(ps:List Tmp) {xs:List S} {us:List Value} {env:List S} {tm:Array Value},SDenL W ι vr ok xs us→SDenL W ι vr ok env tm.toList→
  SDenL W ι vr ok (zipS ps xs env) ((ps.zip us).foldl (fun (t:Array Value) (p,v)=>t.setIfInBounds p v) tm).toList
 | [],xs,us,env,tm,_,he=>by simpa [zipS] using he
 |p::ps, [],us,env,tm,hx,he=>by rw [hx.nil_inv];simpa [zipS] using he
 |p::ps,x::xs,us,env,tm,hx,he=>by
  obtain ⟨u,us',rfl,h1,h2⟩:=hx.cons_inv
  simp only [zipS,List.zip_cons_cons,List.foldl_cons]
  refine zipS_den ps h2 ?_
  rw [st1_eq]
  simpa using he.set h1 p
theorem zip_fold(ps:Array Tmp)(l:List Value)(tm:Array Value):(ps.zip l.toArray).foldl (fun (t:Array Value) (p,v)=>t.setIfInBounds p v) tm=(ps.toList.zip l).foldl (fun (t:Array Value) (p,v)=>t.setIfInBounds p v) tm:=by
 rw [←Array.foldl_toList];simp
theorem call_yield_ok{st:St}{K:St→Prop}{f:Operand}{args:List Operand}{dst:Option Tmp}{k:Nat}{pend:Option Code}{ps:Array Tmp}{asg body:Code}{cs:List S}
  (hcal:evx st.env f= .own k 0) (hk:tatX st.t k= .loop .ready pend ps asg body cs) (hlen:args.length=ps.size)
  (h:Ok P asg ⟨zipS ps.toList (mapX (evx st.env) args) cs,tputX st.t (len' st.t) (.ghost st.env)⟩ (asgK k fun st2=>Ok P body st2 (yldK k (len' st.t) dst K))):CallK P f args dst st K:=by
 unfold CallK
 rintro o ⟨ts,ho⟩ rfl
 rw [evx_eq] at hcal h
 rw [tatX_eq] at hk
 intro n old bs w0 a W ι Kw Q hr hK
 rw [len'_eq,tputX_eq,mapX_eq] at h
 have hg:=hr.gh k
 rw [hk] at hg
 obtain ⟨g1,g2,g3,g4,g5⟩:=hg
 have hno: ¬old (w0.gs k).l:=g3.resolve_left (by simp)
 have hf:a.eval f= .func (.yield (w0.gs k).l) #[] #[] :=by
  have:=hr.ev f
  rw [hcal] at this
  rw [sd_own this (by simp [verT,hk,B.ver]),g1]
 have hargs:SDenL W ι (verT (tat st.t)) (okT bs (tat st.t) ι) (args.map (ev st.env)) (args.map a.eval):=by
  refine ⟨by simp,fun i c u hc hu=> ?_⟩
  rw [List.getElem?_map] at hc hu
  cases hq:args[i]? with
  |none=>simp [hq] at hc
  |some q=>simp [hq] at hc hu;subst hc;subst hu;exact hr.ev q
 refine ⟨fun f _=>FW.fn _ f, ?_⟩
 rw [Oper.semAt_eq _ _ _ (by rw [ho];simp)]
 have hrun:(execOp a.eval o).run P W= .ok (.round (w0.gs k).l (w0.gs k).fn ((ps.zip (args.map a.eval).toArray).foldl (fun t (p,v)=>t.setIfInBounds p v) (w0.gs k).tmps.toArray) asg body) W:=by
  have:=run_yield (P:=P) (args:=(args.map a.eval).toArray) g4 (by simpa using hlen)
  simp only at this
  rw [←this]
  simp [execOp,ho,resolve,hf,Deferred.ofValue,invoke]
 rw [hrun,Oper.uponIn_round]
 refine ⟨by simp [FW,Fence.wide], ?_⟩
 obtain ⟨old',w1,hw1,hr1,ho1,hgs,hpush,hpop⟩:=hr.push (some (w0.gs k).l) (fun l hl=>by cases hl;exact ⟨g2.1,_,g4⟩) (env:=zipS ps.toList (args.map (ev st.env)) cs) (tm:=(ps.zip (args.map a.eval).toArray).foldl (fun t (p,v)=>t.setIfInBounds p v) (w0.gs k).tmps.toArray)
 obtain ⟨e1,e2,e3,e4⟩:=ghost_step hr.tok hr.oldIn st.t.length (tat_new _) st.env
 have hkl:k≠st.t.length:=fun e=>by subst e;rw [tat_new] at hk;cases hk
 have hrel:=hpush (by
  have:=zipS_den (tm:=(w0.gs k).tmps.toArray) ps.toList (e2 hargs) (by simpa using e2 g5)
  rw [zip_fold]
  exact this)
 have hgk:=hgs k hkl
 have hno': ¬old' (w1.gs k).l:=by
  have:=hrel.gh k
  have e:tat (tput st.t st.t.length (.ghost st.env)) k= .loop .ready pend ps asg body cs:=by rw [tat_tput,at_ne _ _ hkl];exact hk
  rw [show (⟨zipS ps.toList (args.map (ev st.env)) cs,tput st.t st.t.length (.ghost st.env)⟩:St).t=tput st.t st.t.length (.ghost st.env) from rfl,e] at this
  exact this.2.2.1.resolve_left (by simp)
 refine roundIn_of_wpIn (FW.fn _ _) ?_
 have h1:=h (n-1) old' bs w1 _ W ι hrel
 rw [hr1] at h1
 refine wpIn_mono h1 ?_
 rintro e a1 W1 ⟨x,st1,ι1,rfl,hx,hrel1⟩
 cases x with
 |exit i=>simp [asgK] at hx
 |ret=>simp [asgK] at hx
 |normal=>
  unfold asgK at hx
  rw [tatX_eq,tputX_eq] at hx
  simp only at hx
  split at hx
  ·rename_i s pend1 ps1 asg1 body1 cs1 hk1
   split at hx
   ·rw [frc_eq] at hx
    have hg1:=hrel1.gh k
    rw [hk1] at hg1
    obtain ⟨_,_,_,f4,_⟩:=hg1
    rw [hgk] at f4
    refine ⟨_,run_beginRound f4 rfl, ?_⟩
    have ht:=hrel1.turnLoop (s':= .busy) (p':=pend1) hk1 hno'
    rw [hgk] at ht
    have h2:=hx (n-1) old' bs w1 _ _ ι1 ht
    rw [hr1] at h2
    refine wpIn_mono h2 ?_
    rintro e a2 W2 ⟨x,st2,ι2,rfl,hy,hrel2⟩
    unfold yldK at hy
    simp only [tatX_eq,tputX_eq,putx_eq] at hy
    split at hy
    ·rename_i env hge
     split at hy
     ·rename_i s2 p2 ps2 asg2 body2 cs2 hk2
      split at hy
      ·have hg2:=hrel2.gh k
       rw [hk2] at hg2
       obtain ⟨_,_,_,f5,_⟩:=hg2
       rw [hgk] at f5
       have fin: ∀(s':LoopState) (p':Option Code),∃ι',Rel old bs w0 ι' ⟨env,tput (tput st2.t k (.loop s' p' ps2 asg2 body2 cs2)) st.t.length .dead⟩ a (W2.putObj (w0.gs k).l (.loop {state:=s',pending:=p',fn:=(w0.gs k).fn,tmps:=(w0.gs k).tmps.toArray,params:=ps2,assign:=asg2,body:=body2,defers:=(w0.gs k).D})):=fun s' p'=>by
        have ht2:=hrel2.turnLoop (s':=s') (p':=p') hk2 hno'
        rw [hgk] at ht2
        have hge2:tat (tput st2.t k (.loop s' p' ps2 asg2 body2 cs2)) st.t.length= .ghost env:=by rw [tat_tput,at_ne _ _ (fun e=>hkl e.symm)];exact hge
        exact ⟨ι2,(hpop ht2 hge2).1⟩
       have put: ∀{b:Bool} {t:List B} {W3:World} {ι':Nat→Value},Rel old bs w0 ι' ⟨env,t⟩ a W3→Rel old bs w0 ι' ⟨putE env o.dst (.d (.v (.bool b))),t⟩ (a.put o.dst (.bool b)) W3:=fun h=>h.put (t:=_) (StepTo.refl h.tok) (.d (.v rfl))
       cases x with
       |normal=>
        simp only [frc_eq] at hy
        obtain ⟨ι3,hf3⟩:=fin .ready none
        exact ⟨_,_,run_endRound none f5,hK _ _ _ ι3 hy (put hf3)⟩
       |exit i=>
        simp only [frc_eq] at hy
        obtain ⟨ι3,hf3⟩:=fin .done (some (.exit i))
        exact ⟨_,_,run_endRound (some (.exit i)) f5,hK _ _ _ ι3 hy (put hf3)⟩
       |ret=>
        simp only [frc_eq] at hy
        obtain ⟨ι3,hf3⟩:=fin .done (some .ret)
        exact ⟨_,_,run_endRound (some .ret) f5,hK _ _ _ ι3 hy (put hf3)⟩
      ·exact hy.elim
     ·exact hy.elim
    ·exact hy.elim
   ·exact hx.elim
  ·exact hx.elim
end
end Go.Nv
end
section
namespace Go.Nv
open Go.RowKit
theorem weak_dead1(k:Nat)(env:List S)(t:List B)(hg:(tat t k).gh=false):Weak ⟨env,t⟩ ⟨env,tput t k .dead⟩:=by
 intro old bs w0 a W ι hr
 have hds:=dead_step hr.tok hr.oldIn k
 have hat:tat (tput t k .dead)=at_ (tat t) k .dead:=tat_tput ..
 refine ⟨ι,hr.defers,hr.oldIn,hr.fr, ?_, ?_, ?_, ?_,hr.rnd⟩
 ·show TOk W old bs ι (tat (tput t k .dead));rw [hat];exact hds.tok
 ·show SDenL W ι (verT (tat (tput t k .dead))) (okT bs (tat (tput t k .dead)) ι) env a.tmps.toList
  rw [hat];exact hds.sdenL hr.env
 ·show∀j,GhOk W old ι (verT (tat (tput t k .dead))) (okT bs (tat (tput t k .dead)) ι) (w0.gs j) j (tat (tput t k .dead) j)
  rw [hat];exact hr.ghStep hds
 ·show∀i j,(tat (tput t k .dead) i).isLoop=true→(tat (tput t k .dead) j).isLoop=true→(w0.gs i).l=(w0.gs j).l→i=j
  rw [hat];exact hr.lapStep hds
def ghB:B→Bool
 | .ghost .. =>true
 | .loop .. =>true
 |_=>false
theorem weak_dead(k:Nat){env env':List S}{t t':List B}(hg:ghB (tatX t k)=false)(h:Weak ⟨env,tputX t k .dead⟩ ⟨env',t'⟩):Weak ⟨env,t⟩ ⟨env',t'⟩:=by
 rw [tputX_eq] at h
 rw [tatX_eq] at hg
 refine (weak_dead1 k env t ?_).trans h
 cases hq:tat t k<;>rw [hq] at hg<;>simp_all [ghB,B.gh]
end Go.Nv
end
section
namespace Go.Nv
open Go.RowKit
def okN'(P:Program)(body:Code):Nat→St→(Ex→St→Prop)→Prop
 |0,_,_=>False
 |n+1,st,K=>Ok P body st (lpX (fun st'=>okN' P body n st' K) K)
def goN(P:Program)(T:Tb)(mu:Tmp→Bool)(body:Code):Nat→St→(Ex→St→Prop)→Prop
 |0,_,_=>False
 |n+1,st,K=>go P T mu body st (lpX (fun st'=>goN P T mu body n st' K) K)
section
variable {P:Program} {T:Tb} {st:St} {K:Ex→St→Prop} {body:Code}
theorem ok_unroll(m:Nat)(h:okN' P body m st K):Ok P (.loop body) st K:=by
 intro n old bs w0 a W ι hr
 refine wpIn_loop_rounds m ?_
 induction m generalizing st a W ι with
 |zero=>exact h.elim
 |succ m ih=>
  refine wpIn_mono (h n old bs w0 a W ι hr) ?_
  rintro e a' W' ⟨x,st',ι',rfl,hk,hrel⟩
  cases x with
  |normal=>exact ih hk a' W' ι' hrel
  |exit i=>exact ⟨.exit i,st',ι',rfl,hk,hrel⟩
  |ret=>exact ⟨.ret,st',ι',rfl,hk,hrel⟩
theorem goN_ok(hm:P.follows .mixedOrders=true)(hT:TbOk P T){mu:Tmp→Bool}: ∀(m:Nat) (st:St),goN P T mu body m st K→okN' P body m st K
 |0,st,h=>h
 |m+1,st,h=>by
  refine (ok_go hm hT body _ _ h).mono fun e st' hk=> ?_
  cases e with
  |normal=>exact goN_ok hm hT m st' hk
  |exit i=>exact hk
  |ret=>exact hk
theorem unroll(m:Nat)(mu:Tmp→Bool)(hm:P.follows .mixedOrders=true)(hT:TbOk P T)(h:goN P T mu body m st K):OkC P (.loop body) st K:=
 okc_intro (ok_unroll m (goN_ok hm hT m st h))
end
end Go.Nv
end
section
namespace Go.Nv
open Go.RowKit
theorem okc_weak{P:Program}{c:Code}{st st':St}{K:Ex→St→Prop}(hw:Weak st st')(h:OkC P c st' K):OkC P c st K:=by
 unfold OkC at*
 exact h.weak hw
theorem sd_nil{W:World}{ι:Nat→Value}{vr:Nat→Option (Option Nat)}{ok:Nat→Prop}{v:Value}(h:SDen W ι vr ok (.d (.v (.slice none 0 0))) v):v= .slice none 0 0:=by
 exact (sd_v h).1
theorem weak_own1(k j:Nat){ty:TypeId}{cs:List S}(e:TypeId)(size bytes:Nat){env:List S}{t:List B}(hk:tat t k= .box ty cs)(hj:cs[j]? =some (.d (.v (.slice none 0 0)))):
  Weak ⟨env,t⟩ ⟨env,tput (tput t t.length (.row 0 e size bytes [])) k (.box ty (cs.set j (.own t.length 0)))⟩:=by
 intro old bs w0 a W ι hr
 have hgone:tat t t.length= .gone:=tat_new _
 have hkn:k≠t.length:=fun e=>by subst e;rw [hgone] at hk;cases hk
 have h1:=hr.tok.newNil hr.oldIn t.length hgone 0 e size bytes
 have hat1:tat (tput t t.length (.row 0 e size bytes []))=at_ (tat t) t.length (.row 0 e size bytes []):=tat_tput ..
 have hat:tat (tput (tput t t.length (.row 0 e size bytes [])) k (.box ty (cs.set j (.own t.length 0))))=at_ (at_ (tat t) t.length (.row 0 e size bytes [])) k (.box ty (cs.set j (.own t.length 0))):=by
  rw [tat_tput,hat1]
 obtain ⟨ι1,hι⟩: ∃ι1,ι1=at_ ι t.length (.slice none 0 0):=⟨_,rfl⟩
 rw [←hι] at h1
 obtain ⟨τ1,hτ⟩: ∃τ1,τ1=at_ (tat t) t.length (.row 0 e size bytes []):=⟨_,rfl⟩
 rw [←hτ] at h1
 rw [←hτ] at hat
 have hk1:τ1 k= .box ty cs:=by rw [hτ,at_ne _ _ hkn];exact hk
 have hn1:τ1 t.length= .row 0 e size bytes [] :=by rw [hτ,at_same]
 have hin:ι1 t.length= .slice none 0 0:=by rw [hι,at_same]
 have h2:StepTo old bs W ι1 τ1 W (at_ ι1 k (ι1 k)) (at_ τ1 k (.box ty (cs.set j (.own t.length 0)))):=by
  refine h1.tok.upd hr.oldIn k _ _ (row:=none) ⟨rfl,rfl,rfl,Nat.le_refl _,fun _ _ _=>rfl⟩ (by simp) (fun b _ hb=> .inr ⟨by rw [hk1];rfl,hb⟩) (fun c hc=> ?_) (fun hkeep hok hv=> ?_)
  ·rw [hk1] at hc
   simp [B.ver] at hc;subst hc
   exact ⟨_,rfl,fun m hm=>⟨m,hm,Nat.le_refl _,fun _=>rfl⟩⟩
  ·have he:=h1.tok.ent k
   rw [hk1] at he
   obtain ⟨b,us,e1,e2,e3,e4,e5⟩:=he
   refine ⟨b,us,by rw [at_same];exact e1,e2,e3, ?_,e5⟩
   have e6:=e4.keep (W':=W) hkeep hok hv
   obtain ⟨u,hu,hd⟩:=e4.at hj
   have hun:=sd_nil hd
   have e7:=e6.set (c:= .own t.length 0) (u:= .slice none 0 0) (.own (seen_now (by show (at_ τ1 k _ t.length).ver=_;rw [at_ne _ _ (fun e=>hkn e.symm),hn1];rfl)) fun _=>by rw [at_ne _ _ (fun e=>hkn e.symm),hin]) j
   have e8:us.set j (.slice none 0 0)=us:=by
    rw [←hun]
    apply List.ext_getElem?
    intro i
    rw [List.getElem?_set]
    split
    ·rename_i hij;subst hij
     split
     ·exact hu.symm
     ·rename_i hlt;exact absurd (List.getElem?_eq_some_iff.1 hu).1 hlt
    ·rfl
   rwa [e8] at e7
 have hι2:at_ ι1 k (ι1 k)=ι1:=by funext j;unfold at_;split<;>simp_all
 rw [hι2] at h2
 have hst:=h1.trans h2
 refine ⟨ι1,hr.defers,hr.oldIn,hr.fr, ?_, ?_, ?_, ?_,hr.rnd⟩
 ·show TOk W old bs ι1 (tat (tput (tput t t.length (.row 0 e size bytes [])) k (.box ty (cs.set j (.own t.length 0)))));rw [hat];exact hst.tok
 ·show SDenL W ι1 (verT (tat (tput (tput t t.length (.row 0 e size bytes [])) k (.box ty (cs.set j (.own t.length 0)))))) (okT bs (tat (tput (tput t t.length (.row 0 e size bytes [])) k (.box ty (cs.set j (.own t.length 0))))) ι1) env a.tmps.toList
  rw [hat];exact hst.sdenL hr.env
 ·show∀i,GhOk W old ι1 (verT (tat (tput (tput t t.length (.row 0 e size bytes [])) k (.box ty (cs.set j (.own t.length 0)))))) (okT bs (tat (tput (tput t t.length (.row 0 e size bytes [])) k (.box ty (cs.set j (.own t.length 0))))) ι1) (w0.gs i) i (tat (tput (tput t t.length (.row 0 e size bytes [])) k (.box ty (cs.set j (.own t.length 0)))) i)
  rw [hat];exact hr.ghStep hst
 ·show∀i i',(tat (tput (tput t t.length (.row 0 e size bytes [])) k (.box ty (cs.set j (.own t.length 0)))) i).isLoop=true→(tat (tput (tput t t.length (.row 0 e size bytes [])) k (.box ty (cs.set j (.own t.length 0)))) i').isLoop=true→(w0.gs i).l=(w0.gs i').l→i=i'
  rw [hat];exact hr.lapStep hst
def ownSt(k j:Nat)(e:TypeId)(size bytes:Nat)(st:St):St:=
 match tatX st.t k with
 | .box ty cs=>match lk cs j with
  | .d (.v (.slice none 0 0))=>⟨st.env,tputX (tputX st.t (len' st.t) (.row 0 e size bytes [])) k (.box ty (st1 cs j (.own (len' st.t) 0)))⟩
  |_=>st
 |_=>st
theorem weak_own(k j:Nat)(e:TypeId)(size bytes:Nat)(st:St):Weak st (ownSt k j e size bytes st):=by
 unfold ownSt
 rw [tatX_eq]
 split
 ·rename_i ty cs hk
  split
  ·rename_i hj
   rw [lk_eq] at hj
   have hj':cs[j]? =some (.d (.v (.slice none 0 0))):=by
    rw [List.getD_eq_getElem?_getD] at hj
    cases hq:cs[j]? with
    |none=>rw [hq] at hj;simp at hj
    |some q=>rw [hq] at hj;simpa using hj
   rw [tputX_eq,len'_eq,st1_eq]
   exact weak_own1 k j e size bytes hk hj'
  ·exact .refl _
 ·exact .refl _
theorem okc_own(k j:Nat)(e:TypeId)(size bytes:Nat){P:Program}{c:Code}{st:St}{K:Ex→St→Prop}(h:OkC P c (ownSt k j e size bytes st) K):OkC P c st K:=okc_weak (weak_own k j e size bytes st) h
end Go.Nv
end
section
namespace Go.Nv
open Go.RowKit
section
variable {P:Program} {mu:Tmp→Bool} {ops:Array Oper} {old bs:Nat→Prop} {w0:Ctx} {r:Option Nat} {n:Nat}
theorem any_sound2{A S:Nat→Bool}{es:List Ent}{st0:St}(hes:es.map (·.o)=ops.toList)(hok: ∀i e,es[i]? =some e→A i=true→EntOkAt P mu ops (stL (fun j=>decide (j<i)) 0 es st0) e)
  (hupd: ∀(i:Nat) (e:Ent),es[i]? =some e→e.l.upd=e.upd.map (·.1)) (hsafe:safeB ops (es.map (·.l))=true)
  {Q:Exit→Act→World→Prop} (hQ:(∀j,j<ops.size→S j=true∨A j=true)→ ∀a W ι,Rel old bs w0 ι (stL (fun _=>true) 0 es st0) a W→Q .normal a W)
  (hY: ∀(fuel:Nat) (listed:Array Bool) (a:Act) (W:World) (ι:Nat→Value) (i:Nat),i<ops.size→A i=false→listed.getD i false=false→(∀y,ops[i]? =some y→ ∀ed∈y.after.toList,Region.binds .any ed=true→listed.getD ed.on false=true)→
   ((∀j,listed.getD j false=true→S j=true∨A j=true)∧ ∀j,S j=true→listed.getD j false=true)→listed.size=ops.size→Closed ops (fun j=>listed.getD j false)→Closed ops (fun j=>(listed.setIfInBounds i true).getD j false)→(List.range ops.size).countP (fun j=> !listed.getD j false)≤fuel+1→
   Rel old bs w0 ι (stL (fun j=>listed.getD j false) 0 es st0) a W→wpOpIn (FW r) n P ops Q i (wpAnyIn (FW r) n P .any ops Q fuel (listed.setIfInBounds i true)) a W):
  ∀(fuel:Nat) (listed:Array Bool) (a:Act) (W:World) (ι:Nat→Value),listed.size=ops.size→Closed ops (fun j=>listed.getD j false)→((∀j,listed.getD j false=true→S j=true∨A j=true)∧ ∀j,S j=true→listed.getD j false=true)→(List.range ops.size).countP (fun j=> !listed.getD j false)≤fuel→
   Rel old bs w0 ι (stL (fun j=>listed.getD j false) 0 es st0) a W→wpAnyIn (FW r) n P .any ops Q fuel listed a W:=by
 have hlen:es.length=ops.size:=by have:=congrArg List.length hes;simpa using this
 have hop: ∀(i:Nat) (e:Ent),es[i]? =some e→ops[i]? =some e.o:=by
  intro i e he
  have:(es.map (·.o))[i]? =ops.toList[i]? :=by rw [hes]
  rw [List.getElem?_map,he] at this
  simpa using this.symm
 --nothing is ready:all are listed
 have allIn: ∀(listed:Array Bool),listed.size=ops.size→Region.ready .any ops listed= [] → ∀j,j<ops.size→listed.getD j false=true:=by
  intro listed hsz hr j
  induction j using Nat.strongRecOn with
  |ind j ih=>
   intro hj
   by_cases hl:listed.getD j false=true
   ·exact hl
   ·exfalso
    have hmem:j∈Region.ready .any ops listed:=by
     unfold Region.ready
     refine List.mem_filter.2 ⟨by simpa using hj, ?_⟩
     have h1:listed.getD j true=false:=by
      have hjs:j<listed.size:=by omega
      simp only [Array.getD_eq_getD_getElem?,Array.getElem?_eq_getElem hjs,Option.getD_some] at hl ⊢
      simpa using hl
     rw [Array.getElem?_eq_getElem hj]
     simp only [h1,Option.map_some,Option.getD_some,Bool.not_false,Bool.true_and]
     rw [Array.all_eq_true']
     intro e he
     cases hb:Region.binds .any e with
     |false=>rfl
     |true=>
      have:=safe_edge hsafe (Array.getElem?_eq_getElem hj) e (by simpa using he) hb
      simp [ih e.on this (by omega)]
    rw [hr] at hmem;simp at hmem
 have done: ∀(listed:Array Bool) (a:Act) (W:World) (ι:Nat→Value),(∀j,listed.getD j false=true→S j=true∨A j=true)→(∀j,j<ops.size→listed.getD j false=true)→Rel old bs w0 ι (stL (fun j=>listed.getD j false) 0 es st0) a W→Q .normal a W:=by
  intro listed a W ι hinv hall h
  refine hQ (fun j hj=>hinv j (hall j hj)) a W ι ?_
  rw [←stL_congr 0 es st0 (L:=fun j=>listed.getD j false) (L':=fun _=>true) (fun j hj=>by simpa using hall j (by omega))]
  exact h
 intro fuel
 induction fuel with
 |zero=>
  intro listed a W ι hsz hcl hinv hcnt h
  have hall: ∀j,j<ops.size→listed.getD j false=true:=by
   intro j hj
   have h0:(List.range ops.size).countP (fun j=> !listed.getD j false)=0:=by omega
   rw [List.countP_eq_zero] at h0
   have:=h0 j (by simpa using hj)
   simpa using this
  refine ⟨?_,done listed a W ι hinv.1 hall h⟩
  unfold Region.ready
  rw [List.filter_eq_nil_iff]
  intro j hj
  have hj:j<ops.size:=by simpa using hj
  have:=hall j hj
  have hjs:j<listed.size:=by omega
  simp only [Array.getD_eq_getD_getElem?,Array.getElem?_eq_getElem hjs,Option.getD_some] at this ⊢
  simp [this]
 |succ fuel ih=>
  intro listed a W ι hsz hcl hinv hcnt h
  refine ⟨fun hr=>done listed a W ι hinv.1 (allIn listed hsz hr) h,fun i hi=> ?_⟩
  unfold Region.ready at hi
  obtain ⟨hi1,hi2⟩:=List.mem_filter.1 hi
  have hin:i<ops.size:=by simpa using hi1
  have his:i<listed.size:=by omega
  obtain ⟨e,he⟩: ∃e,es[i]? =some e:=⟨es[i],List.getElem?_eq_getElem (by omega)⟩
  have hoi:=hop i e he
  rw [hoi] at hi2
  simp only [Option.map_some,Option.getD_some,Bool.and_eq_true,Bool.not_eq_true'] at hi2
  obtain ⟨hi2,hi3⟩:=hi2
  rw [Array.all_eq_true'] at hi3
  have hLi:listed.getD i false=false:=by
   simp only [Array.getD_eq_getD_getElem?,Array.getElem?_eq_getElem his,Option.getD_some] at hi2 ⊢;exact hi2
  --the new list
  have hL': ∀j,(listed.setIfInBounds i true).getD j false=if j=i then true else listed.getD j false:=by
   intro j
   simp only [Array.getD_eq_getD_getElem?,Array.getElem?_setIfInBounds]
   by_cases e:i=j
   ·subst e;simp [his]
   ·rw [if_neg e,if_neg (fun e'=>e e'.symm)]
  have hcl':Closed ops (fun j=>(listed.setIfInBounds i true).getD j false):=by
   intro j y hy hj ed hed hb
   simp only [hL'] at hj ⊢
   by_cases ej:j=i
   ·subst ej
    have hyo:y=e.o:=by rw [hoi] at hy;simpa using hy.symm
    subst hyo
    have:=hi3 ed (by simpa using hed)
    simp only [hb,Bool.not_true,Bool.false_or] at this
    split
    ·rfl
    ·exact this
   ·rw [if_neg ej] at hj
    have:=hcl j y hy hj ed hed hb
    split
    ·rfl
    ·exact this
  cases hA:A i with
  |false=>
   refine hY fuel listed a W ι i hin hA hLi (fun y hy ed hed hb=> ?_) hinv hsz hcl hcl' hcnt h
   have hyo:y=e.o:=by rw [hoi] at hy;simpa using hy.symm
   subst hyo
   have:=hi3 ed (by simpa using hed)
   simpa only [hb,Bool.not_true,Bool.false_or] using this
  |true=>
  have hok_i:=hok i e he hA
  have hinv':(∀j,(listed.setIfInBounds i true).getD j false=true→S j=true∨A j=true)∧ ∀j,S j=true→(listed.setIfInBounds i true).getD j false=true:=by
   constructor
   ·intro j hj
    rw [hL'] at hj
    split at hj
    ·rename_i e;subst e;exact .inr hA
    ·exact hinv.1 j hj
   ·intro j hj
    rw [hL']
    split
    ·rfl
    ·exact hinv.2 j hj
  --what meets it is in order
  have meets: ∀(j:Nat) (ej:Ent),es[j]? =some ej→(meetB ops ej.o e.o ej.l e.l=true∨meetB ops e.o ej.o e.l ej.l=true)→(j<i→meetB ops ej.o e.o ej.l e.l=true)→(i<j→meetB ops e.o ej.o e.l ej.l=true)→listed.getD j false=decide (j<i):=by
   intro j ej hej _ h1 h2
   have hlj:(es.map (·.l)).getD j ⟨[],none⟩=ej.l:=by simp [List.getD_eq_getElem?_getD,hej]
   have hli:(es.map (·.l)).getD i ⟨[],none⟩=e.l:=by simp [List.getD_eq_getElem?_getD,he]
   rcases Nat.lt_trichotomy j i with hlt|heq|hgt
   ·have hb:=safe_pair hsafe hlt (hop j ej hej) hoi (by rw [hlj,hli];exact h1 hlt)
    have:=befM_closed hcl' i j hb (by simp [hL'])
    simp only [hL'] at this
    rw [if_neg (by omega)] at this
    simp [this,hlt]
   ·subst heq;simp [hLi]
   ·have hb:=safe_pair hsafe hgt hoi (hop j ej hej) (by rw [hlj,hli];exact h2 hgt)
    cases hlj2:listed.getD j false with
    |false=>simp;omega
    |true=>
     have:=befM_closed hcl j i hb hlj2
     rw [hLi] at this;simp at this
  have look: ∀d,d∈e.o.looksAt ops→ ∀(j:Nat) (ej:Ent),es[j]? =some ej→ej.o.dst=some d→listed.getD j false=decide (j<i):=by
   intro d hd j ej hej hdst
   have m1:meetB ops ej.o e.o ej.l e.l=true:=by
    unfold meetB;simp [hdst,hd]
   have m2:meetB ops e.o ej.o e.l ej.l=true:=by
    unfold meetB;simp [hdst,hd]
   exact meets j ej hej (.inl m1) (fun _=>m1) (fun _=>m2)
  have same: ∀d,e.o.dst=some d→ ∀(j:Nat) (ej:Ent),es[j]? =some ej→ej.o.dst=some d→listed.getD j false=decide (j<i):=by
   intro d hd j ej hej hdst
   have m1:meetB ops ej.o e.o ej.l e.l=true:=by
    unfold meetB;simp [hdst,hd]
   have m2:meetB ops e.o ej.o e.l ej.l=true:=by
    unfold meetB;simp [hdst,hd]
   exact meets j ej hej (.inl m1) (fun _=>m1) (fun _=>m2)
  have tch: ∀k,(k∈e.l.tch∨e.l.upd=some k)→ ∀(j:Nat) (ej:Ent),es[j]? =some ej→ej.upd.map (·.1)=some k→listed.getD j false=decide (j<i):=by
   intro k hk j ej hej hu
   have hu':ej.l.upd=some k:=by rw [hupd j ej hej];exact hu
   have m1:meetB ops ej.o e.o ej.l e.l=true:=by
    unfold meetB;rcases hk with hk|hk<;>simp [hu',hk]
   have m2:meetB ops e.o ej.o e.l ej.l=true:=by
    unfold meetB;rcases hk with hk|hk<;>simp [hu',hk]
   exact meets j ej hej (.inl m1) (fun _=>m1) (fun _=>m2)
  generalize hsL:stL (fun j=>listed.getD j false) 0 es st0=sL at h
  generalize hsi:stL (fun j=>decide (j<i)) 0 es st0=si at hok_i
  have hslot: ∀d,d∈e.o.looksAt ops→sL.env.getD d .top=si.env.getD d .top:=by
   intro d hd
   rw [←hsL, ←hsi]
   exact stL_env 0 es st0 st0 rfl rfl fun j ej hej hdst=>by simpa using look d hd j ej hej hdst
  have hσ: ∀x∈e.o.op.operands.toList,ev si.env x=ev sL.env x:=by
   intro x hx
   cases x with
   |tmp d=>
    refine (hslot d ?_).symm
    unfold Oper.looksAt
    exact List.mem_append_left _ (List.mem_filterMap.2 ⟨_,hx,rfl⟩)
   |_=>rfl
  have hτ: ∀k,(k∈e.l.tch∨e.l.upd=some k)→tat si.t k=tat sL.t k:=by
   intro k hk
   rw [←hsL, ←hsi]
   exact (stL_tab 0 es st0 st0 rfl fun j ej hej hu=>by simpa using tch k hk j ej hej hu).symm
  --what comes of it
  have after: ∀a' W' ι',Rel old bs w0 ι' (stepE sL e) a' W'→wpAnyIn (FW r) n P .any ops Q fuel (listed.setIfInBounds i true) a' W':=by
   intro a' W' ι' hrel
   refine ih _ _ _ ι' (by simpa using hsz) hcl' hinv' ?_ ?_
   ·have hlt:(List.range ops.size).countP (fun j=> !(listed.setIfInBounds i true).getD j false)<(List.range ops.size).countP (fun j=> !listed.getD j false):=
     countP_lt (p:=fun j=> !(listed.setIfInBounds i true).getD j false) (q:=fun j=> !listed.getD j false) (fun j _ h=>by
      have h:(!(listed.setIfInBounds i true).getD j false)=true:=h
      rw [hL'] at h
      split at h
      ·simp at h
      ·exact h) (i:=i) (by simpa using hin) (by show (!listed.getD i false)=true;rw [hLi];rfl) (by show (!(listed.setIfInBounds i true).getD i false)=false;rw [hL',if_pos rfl];rfl)
    omega
   ·have hstep: ∀st:St,(es.take (i+1)).foldl stepE st=stepE ((es.take i).foldl stepE st) e:=by
     intro st
     have hi':i<es.length:=by omega
     rw [List.take_succ_eq_append_getElem hi',List.foldl_append]
     have:es[i] =e:=(List.getElem?_eq_some_iff.1 he).2
     rw [this];rfl
    have hsi2:stL (fun j=>decide (j<i+1)) 0 es st0=stepE si e:=by
     have h1:=stL_lt es 0 (i+1) st0
     have h2:=stL_lt es 0 i st0
     simp only [Nat.zero_add] at h1 h2
     rw [h1,hstep, ←h2,hsi]
    have l1:(stepE sL e).env.length=st0.env.length:=by simp only [stepE,putE_length];rw [←hsL,stL_len]
    have l2:(stL (fun j=>(listed.setIfInBounds i true).getD j false) 0 es st0).env.length=st0.env.length:=stL_len _ _ _ _
    have l3:si.env.length=st0.env.length:=by rw [←hsi,stL_len]
    refine hrel.congr ?_ ?_
    ·apply List.ext_getElem?
     intro d
     have key:(stepE sL e).env.getD d .top=(stL (fun j=>(listed.setIfInBounds i true).getD j false) 0 es st0).env.getD d .top:=by
      by_cases hd:e.o.dst=some d
      ·have h1:(stL (fun j=>(listed.setIfInBounds i true).getD j false) 0 es st0).env.getD d .top=(stL (fun j=>decide (j<i+1)) 0 es st0).env.getD d .top:=
        stL_env 0 es st0 st0 rfl rfl fun j ej hej hdst=>by
         have:=same d hd j ej hej hdst
         simp only [Nat.zero_add,hL',this]
         by_cases e1:j=i
         ·subst e1;simp
         ·rw [if_neg e1];apply decide_eq_decide.2;omega
       rw [h1,hsi2]
       simp only [stepE,hd,putE_same]
       rw [l3, ←hsL,stL_len]
      ·have h1:(stL (fun j=>(listed.setIfInBounds i true).getD j false) 0 es st0).env.getD d .top=sL.env.getD d .top:=by
        rw [←hsL]
        exact stL_env 0 es st0 st0 rfl rfl fun j ej hej hdst=>by
         simp only [Nat.zero_add,hL']
         by_cases e1:j=i
         ·subst e1;rw [he] at hej;simp at hej;subst hej;exact absurd hdst hd
         ·rw [if_neg e1]
       rw [h1]
       simp only [stepE,putE_ne hd]
     rcases Nat.lt_or_ge d st0.env.length with hlt|hge
     ·rw [List.getElem?_eq_getElem (by rw [l1];exact hlt),List.getElem?_eq_getElem (by rw [l2];exact hlt)]
      rw [List.getD_eq_getElem?_getD,List.getD_eq_getElem?_getD,List.getElem?_eq_getElem (by rw [l1];exact hlt),List.getElem?_eq_getElem (by rw [l2];exact hlt)] at key
      simpa using key
     ·rw [List.getElem?_eq_none (by rw [l1];exact hge),List.getElem?_eq_none (by rw [l2];exact hge)]
    ·intro k
     by_cases hk:e.upd.map (·.1)=some k
     ·have h1:tat (stL (fun j=>(listed.setIfInBounds i true).getD j false) 0 es st0).t k=tat (stL (fun j=>decide (j<i+1)) 0 es st0).t k:=
       stL_tab 0 es st0 st0 rfl fun j ej hej hu=>by
        have:=tch k (.inr (by rw [hok_i.updl];exact hk)) j ej hej hu
        simp only [Nat.zero_add,hL',this]
        by_cases e1:j=i
        ·subst e1;simp
        ·rw [if_neg e1];apply decide_eq_decide.2;omega
      rw [h1,hsi2,tat_step,tat_step]
      cases hu:e.upd with
      |none=>rw [hu] at hk;simp at hk
      |some x=>rw [hu] at hk;simp at hk;simp only [tupd, ←hk,at_same]
     ·have h1:tat (stL (fun j=>(listed.setIfInBounds i true).getD j false) 0 es st0).t k=tat sL.t k:=by
       rw [←hsL]
       exact stL_tab 0 es st0 st0 rfl fun j ej hej hu=>by
        simp only [Nat.zero_add,hL']
        by_cases e1:j=i
        ·subst e1;rw [he] at hej;simp at hej;subst hej;exact absurd hu hk
        ·rw [if_neg e1]
      rw [h1,tat_step]
      cases hu:e.upd with
      |none=>rfl
      |some x=>rw [hu] at hk;simp at hk;simp only [tupd];rw [at_ne _ _ (fun e=>hk e.symm)]
  show wpOpIn (FW r) n P ops Q i (wpAnyIn (FW r) n P .any ops Q fuel (listed.setIfInBounds i true)) a W
  unfold wpOpIn
  simp only [hoi]
  --the guard
  have hwant:Region.wanted e.o (yielded ops a.tmps)=e.run:=by
   have hg:=hok_i.1
   unfold guardOk at hg
   unfold Region.wanted
   split at hg
   ·rename_i hgd;rw [hgd,hg]
   ·rename_i j w hgd
    rcases hg with ⟨d,b,hd,hv,hrun⟩|⟨d,hd,hv,hrun⟩
    case inr=>
     rw [hgd]
     simp only
     have hmem:d∈e.o.looksAt ops:=by
      unfold Oper.looksAt
      refine List.mem_append_right _ ?_
      rw [hgd]
      simp [hd]
     have hs:=hslot d hmem
     have hsd:=h.ev (.tmp d)
     have hv2:ev sL.env (.tmp d)= .tup [] :=by simp only [ev] at hv ⊢;rw [hs];exact hv
     rw [hv2] at hsd
     rw [yielded_und hd (und_sd hsd),hrun];rfl
    rw [hgd]
    simp only
    have hmem:d∈e.o.looksAt ops:=by
     unfold Oper.looksAt
     refine List.mem_append_right _ ?_
     rw [hgd]
     simp [hd]
    have hs:=hslot d hmem
    have hsd:=h.ev (.tmp d)
    have hv2:ev sL.env (.tmp d)= .d (.v (.bool b)):=by simp only [ev] at hv ⊢;rw [hs];exact hv
    rw [hv2] at hsd
    have hval:=(sd_v hsd).1
    have hy:yielded ops a.tmps j=some b:=by
     unfold yielded
     rw [hd]
     simp only [Option.bind_some]
     have:a.tmps.getD d undef= .bool b:=hval
     cases hq:a.tmps[d]? with
     |none=>rw [Array.getD_eq_getD_getElem?,hq] at this;simp [undef] at this
     |some q=>rw [Array.getD_eq_getD_getElem?,hq] at this;simp at this;rw [this]
    rw [hy,hrun];rfl
  rw [hwant]
  cases hrun:e.run with
  |true=>
   rw [if_pos rfl]
   have hf:=hok_i.2.1 hrun
   have hgone:(∃b,e.upd=some (si.t.length,b))→tat sL.t si.t.length= .gone:=by
    rintro ⟨b,hb⟩
    rw [←hτ _ (.inr (by rw [hok_i.updl,hb];rfl))]
    exact tat_new _
   obtain ⟨k2,l',hk2,hf2⟩:=hf.local hσ (fun k hk=>hτ k (.inl hk)) (tat_new sL.t) hgone
   exact hf2.sound h hk2 fun a' W' ι' hrel=>after a' W' ι' hrel
  |false=>
   rw [if_neg (by simp)]
   refine ⟨fun f _=>FW.fn r f, ?_⟩
   obtain ⟨h1,h2,_⟩:=hok_i.2.2 hrun
   refine after _ _ ι ?_
   have:=h.put (dst:=e.o.dst) (s:= .tup []) (v:=undef) (t:=sL.t) (StepTo.refl h.tok) (sd_und _ _ _ _)
   have e1:stepE sL e=⟨putE sL.env e.o.dst (.tup []),sL.t⟩:=by simp only [stepE,h1,h2,tupL]
   rw [e1];exact this
end
end Go.Nv
end
section
namespace Go.Nv
open Go.RowKit
def dum(st:St)(o:Oper):Ent:=⟨o,true,match o.dst with|some d=>st.env.getD d .top|none=> .top,none,⟨[],none⟩⟩
theorem dum_o(st:St)(l:List Oper):(l.map (dum st)).map (·.o)=l:=by rw [List.map_map];exact List.map_id'' (fun _=>rfl) l
theorem dum_l(st:St)(l:List Oper):(l.map (dum st)).map (·.l)=List.replicate l.length ⟨[],none⟩:=by
 rw [List.map_map];induction l with
 |nil=>rfl
 |cons o l ih=>simp only [List.map_cons,ih,List.length_cons,List.replicate_succ];rfl
theorem dum_fold{st:St}: ∀(l:List Oper),(l.map (dum st)).foldl stepE st=st
 | [] =>rfl
 |o::l=>by
  rw [List.map_cons,List.foldl_cons]
  have:stepE st (dum st o)=st:=by
   simp only [stepE,tupL,dum]
   cases hd:o.dst with
   |none=>rfl
   |some d=>
    simp only [putE]
    have:st.env.set d (st.env.getD d .top)=st.env:=by
     apply List.ext_getElem?
     intro i
     rw [List.getElem?_set]
     split
     ·rename_i e;subst e
      split
      ·rename_i h;rw [List.getD_eq_getElem?_getD,List.getElem?_eq_getElem h];rfl
      ·rename_i h;rw [List.getElem?_eq_none (by omega)]
     ·rfl
    rw [this]
  rw [this];exact dum_fold l
def midB(ops:Array Oper)(p:Nat):Bool:=
 let bs:=befM ops.toList
 (List.range ops.size).all fun j=>
  match Nat.blt j p with
  |true=>(bs.getD p 0).testBit j
  |false=>match Nat.blt p j with
   |true=>(bs.getD j 0).testBit p
   |false=>true
theorem mid_lt{ops:Array Oper}{p j:Nat}(h:midB ops p=true)(hp:p<ops.size)(hj:j<p):((befM ops.toList).getD p 0).testBit j=true:=by
 unfold midB at h
 have:=List.all_eq_true.1 h j (by simp;omega)
 have e:Nat.blt j p=true:=by simpa [Nat.blt_eq] using hj
 simpa [e] using this
theorem mid_gt{ops:Array Oper}{p j:Nat}(h:midB ops p=true)(hj:j<ops.size)(hp:p<j):((befM ops.toList).getD j 0).testBit p=true:=by
 unfold midB at h
 have:=List.all_eq_true.1 h j (by simp;omega)
 have e:Nat.blt p j=true:=by simpa [Nat.blt_eq] using hp
 have e2:Nat.blt j p=false:=by
  cases hh:Nat.blt j p with
  |false=>rfl
  |true=>rw [Nat.blt_eq] at hh;omega
 simpa [e,e2] using this
def repL(n:Nat):List Look:=List.replicate n ⟨[],none⟩
section
variable {P:Program} {T:Tb} {mu:Tmp→Bool}
theorem ok_drawY(hm:P.follows .mixedOrders=true)(hT:TbOk P T){id:Nat}{ops:Array Oper}(p:Nat){y:Oper}(hy:ops[p]? =some y)(hg:y.guard=none){f:Operand}{args:List Operand}{ts:_}
  (hop:y.op= .call {callee:= .value f,args:=args.toArray,argTypes:=ts}) (hmid:midB ops p=true) {st:St} {K:Ex→St→Prop}
  (h:goDrs P T mu ops.toList (ops.toList.take p) [] st fun ls1 st1=>SafeG ops (ls1++repL (ops.size-p)) (CallK P f args y.dst st1 fun st2=>
   goDrs P T mu ops.toList (ops.toList.drop (p+1)) (repL (p+1)) st2 fun ls3 st3=>SafeG ops ls3 (K .normal st3))):Ok P (.region id ops true) st K:=by
 intro n old bs w0 a W ι hr
 refine wpIn_region_any hm ?_
 have hps:p<ops.size:=(Array.getElem?_eq_some_iff.1 hy).1
 have hlen:ops.toList.length=ops.size:=by simp
 obtain ⟨es1,h1,h2,h3⟩:=vcOps_trace _ _ _ (goDrs_vc hT (fun _ _ h=>h) _ _ _ h)
 unfold SafeG CallK at h3
 obtain ⟨hs1,hcall⟩:=h3
 rw [List.nil_append] at hs1
 have l1:es1.length=p:=by have:=congrArg List.length h1;simp at this;omega
 let es:List Ent:=es1++(ops.toList.drop p).map (dum st)
 have heo:es.map (·.o)=ops.toList:=by
  show List.map (·.o) (es1++_)=_
  rw [List.map_append,h1,dum_o,List.take_append_drop]
 have hel:es.map (·.l)=es1.map (·.l)++repL (ops.size-p):=by
  show List.map (·.l) (es1++_)=_
  rw [List.map_append,dum_l,List.length_drop,hlen];rfl
 have tk: ∀i,i≤p→es.take i=es1.take i:=by
  intro i hi
  show List.take i (es1++_)=_
  rw [List.take_append_of_le_length (by omega)]
 have lt0: ∀(es:List Ent) i st,stL (fun j=>decide (j<i)) 0 es st=(es.take i).foldl stepE st:=by
  intro es i st
  have:=stL_lt es 0 i st
  simpa only [Nat.zero_add] using this
 have hes:es.length=ops.size:=by have:=congrArg List.length heo;simpa using this
 refine any_sound2 (mu:=mu) (old:=old) (bs:=bs) (w0:=w0) (A:=fun j=>decide (j<p)) (S:=fun _=>false) (es:=es) (st0:=st) heo ?_ ?_ (by rw [hel];exact hs1) ?_ ?_ ops.size _ a _ ι (by simp) ?_ ?_ ?_ ?_
 ·intro i e he hA
  have hi:i<p:=by simpa using hA
  rw [lt0,tk i (by omega)]
  refine h2 i e ?_
  have:es[i]? =es1[i]? :=by
   show (es1++_)[i]? =_
   rw [List.getElem?_append_left (by omega)]
  rw [←this];exact he
 ·intro i e he
  rcases Nat.lt_or_ge i p with hi|hi
  ·have:es[i]? =es1[i]? :=by
    show (es1++_)[i]? =_
    rw [List.getElem?_append_left (by omega)]
   exact (h2 i e (by rw [←this];exact he)).updl
  ·have:es[i]? =((ops.toList.drop p).map (dum st))[i-p]? :=by
    show (es1++_)[i]? =_
    rw [List.getElem?_append_right (by omega),l1]
   rw [this,List.getElem?_map] at he
   cases hh:(ops.toList.drop p)[i-p]? with
   |none=>rw [hh] at he;simp at he
   |some o=>rw [hh] at he;simp at he;subst he;rfl
 ·intro hall
  have:=hall p hps
  simp at this
 ·intro fuel listed a W ι i hin hA hLi hpre hinv hsz hcl hcl' hcnt hrel
  have his:i<listed.size:=by omega
  have hL': ∀j,(listed.setIfInBounds i true).getD j false=if j=i then true else listed.getD j false:=by
   intro j
   simp only [Array.getD_eq_getD_getElem?,Array.getElem?_setIfInBounds]
   by_cases e:i=j
   ·subst e;simp [his]
   ·rw [if_neg e,if_neg (fun e'=>e e'.symm)]
  have hip:i=p:=by
   have hge: ¬i<p:=by simpa using hA
   rcases Nat.lt_or_ge p i with hlt|hle
   ·exfalso
    have:=befM_closed hcl' i p (mid_gt hmid hin hlt) (by show (listed.setIfInBounds i true).getD i false=true;rw [hL',if_pos rfl])
    simp only [hL'] at this
    rw [if_neg (by omega)] at this
    have:=hinv.1 p this
    simp at this
   ·omega
  subst hip
  have hex: ∀j,listed.getD j false=decide (j<i):=by
   intro j
   by_cases hj:j<i
   ·have:=befM_closed hcl' i j (mid_lt hmid hin hj) (by show (listed.setIfInBounds i true).getD i false=true;rw [hL',if_pos rfl])
    simp only [hL'] at this
    rw [if_neg (by omega)] at this
    simp [this,hj]
   ·cases hh:listed.getD j false with
    |false=>simp [hj]
    |true=>have:=hinv.1 j hh;simp at this;omega
  have hex': ∀j,(listed.setIfInBounds i true).getD j false=decide (j<i+1):=by
   intro j
   rw [hL',hex]
   split
   ·rename_i e;subst e;simp
   ·apply decide_eq_decide.2;omega
  have hst1:stL (fun j=>listed.getD j false) 0 es st=es1.foldl stepE st:=by
   rw [show (fun j=>listed.getD j false)=fun j=>decide (j<i) from funext hex,lt0,tk i (Nat.le_refl _),List.take_of_length_le (by omega)]
  rw [hst1] at hrel
  unfold wpOpIn
  simp only [hy]
  have hw:Region.wanted y (yielded ops a.tmps)=true:=by unfold Region.wanted;rw [hg]
  rw [hw,if_pos rfl]
  refine hcall y ⟨ts,hop⟩ rfl n old bs w0 a W ι _ _ hrel ?_
  intro st2 a2 W2 ι2 h4 hrel2
  obtain ⟨es3,k1,k2,k3⟩:=vcOps_trace _ _ _ (goDrs_vc hT (fun _ _ h=>h) _ _ _ h4)
  obtain ⟨hs3,hK⟩:=k3
  let fs:List Ent:=(ops.toList.take (i+1)).map (dum st2)++es3
  have lf:((ops.toList.take (i+1)).map (dum st2)).length=i+1:=by simp;omega
  have hfo:fs.map (·.o)=ops.toList:=by
   show List.map (·.o) (_++es3)=_
   rw [List.map_append,k1,dum_o,List.take_append_drop]
  have hfl:fs.map (·.l)=repL (i+1)++es3.map (·.l):=by
   show List.map (·.l) (_++es3)=_
   rw [List.map_append,dum_l,List.length_take,hlen,Nat.min_eq_left (by omega)];rfl
  have hfs:fs.length=ops.size:=by have:=congrArg List.length hfo;simpa using this
  have ft: ∀k,(fs.take (i+1+k)).foldl stepE st2=(es3.take k).foldl stepE st2:=by
   intro k
   show (List.take (i+1+k) (_++es3)).foldl stepE st2=_
   rw [List.take_append,lf,List.take_of_length_le (by omega),List.foldl_append,dum_fold,show i+1+k-(i+1)=k from by omega]
  refine any_sound2 (mu:=mu) (old:=old) (bs:=bs) (w0:=w0) (A:=fun j=>decide (i<j)) (S:=fun j=>decide (j<i+1)) (es:=fs) (st0:=st2) hfo ?_ ?_ (by rw [hfl];exact hs3) ?_ ?_ fuel _ a2 _ ι2 (by simpa using hsz) hcl' ?_ ?_ ?_
  ·intro j e he hA
   have hj:i<j:=by simpa using hA
   rw [lt0]
   obtain ⟨k,rfl⟩: ∃k,j=i+1+k:=⟨j-(i+1),by omega⟩
   rw [ft]
   refine k2 k e ?_
   have:fs[i+1+k]? =es3[k]? :=by
    show (_++es3)[i+1+k]? =_
    rw [List.getElem?_append_right (by omega),lf,show i+1+k-(i+1)=k from by omega]
   rw [←this];exact he
  ·intro j e he
   rcases Nat.lt_or_ge j (i+1) with hj|hj
   ·have:fs[j]? =((ops.toList.take (i+1)).map (dum st2))[j]? :=by
     show (_++es3)[j]? =_
     rw [List.getElem?_append_left (by omega)]
    rw [this,List.getElem?_map] at he
    cases hh:(ops.toList.take (i+1))[j]? with
    |none=>rw [hh] at he;simp at he
    |some o=>rw [hh] at he;simp at he;subst he;rfl
   ·have:fs[j]? =es3[j-(i+1)]? :=by
     show (_++es3)[j]? =_
     rw [List.getElem?_append_right (by omega),lf]
    exact (k2 _ e (by rw [←this];exact he)).updl
  ·intro _ a3 W3 ι3 hrel3
   refine ⟨.normal,_,ι3,rfl,hK, ?_⟩
   rw [stL_true] at hrel3
   have:fs.foldl stepE st2=es3.foldl stepE st2:=by
    show (_++es3).foldl stepE st2=_
    rw [List.foldl_append,dum_fold]
   rw [←this];exact hrel3
  ·intro fuel' listed' a' W' ι' j hjn hjA hjL _ hinv' _ _ _ _ _
   exfalso
   have:j<i+1:=by
    have: ¬i<j:=by simpa using hjA
    omega
   have:=hinv'.2 j (by simpa using this)
   rw [this] at hjL;simp at hjL
  ·constructor
   ·intro j hj
    rw [hex'] at hj
    exact .inl hj
   ·intro j hj
    rw [hex'];exact hj
  ·have hlt:(List.range ops.size).countP (fun j=> !(listed.setIfInBounds i true).getD j false)<(List.range ops.size).countP (fun j=> !listed.getD j false):=
    countP_lt (p:=fun j=> !(listed.setIfInBounds i true).getD j false) (q:=fun j=> !listed.getD j false) (fun j _ h=>by
     have h:(!(listed.setIfInBounds i true).getD j false)=true:=h
     rw [hL'] at h
     split at h
     ·simp at h
     ·exact h) (i:=i) (by simpa using hin) (by show (!listed.getD i false)=true;rw [hLi];rfl) (by show (!(listed.setIfInBounds i true).getD i false)=false;rw [hL',if_pos rfl];rfl)
   omega
  ·rw [show (fun j=>(listed.setIfInBounds i true).getD j false)=fun j=>decide (j<i+1) from funext hex',lt0]
   have:=ft 0
   rw [Nat.add_zero,List.take_zero] at this
   rw [this];exact hrel2
 ·intro j y hy hj
  simp [Array.getD_eq_getD_getElem?,Array.getElem?_replicate] at hj
  split at hj<;>simp at hj
 ·refine ⟨fun j hj=> ?_,fun j hj=>by simp at hj⟩
  simp [Array.getD_eq_getD_getElem?,Array.getElem?_replicate] at hj
  split at hj<;>simp at hj
 ·exact Nat.le_trans (List.countP_le_length) (by simp)
 ·have e0:stL (fun j=>(Array.replicate ops.size false).getD j false) 0 es st=st:=stL_none 0 es st fun j _=>by simp [Array.getD_eq_getD_getElem?,Array.getElem?_replicate];split<;>rfl
  rw [e0];exact hr.drew
end
end Go.Nv
end
section
namespace Go.Nv
open Go.RowKit
def leB(x y:B):Prop:=match x,y with
 | .ghost cs,.ghost cs'=>leX cs cs'
 | .loop s p ps asg body cs,.loop s' p' ps' asg' body' cs'=>s=s'∧p=p'∧ps=ps'∧asg=asg'∧body=body'∧leX cs cs'
 |x,y=>eqBP x y
def leT2:List B→List B→Prop
 | [], [] =>True
 |x::xs,y::ys=>leB x y∧leT2 xs ys
 |_,_=>False
inductive LeB:B→B→Prop
 |rfl {x:B}:LeB x x
 |gh {cs cs':List S} (h:LeL cs cs'):LeB (.ghost cs) (.ghost cs')
 |lp {s:LoopState} {p:Option Code} {ps:Array Tmp} {asg body:Code} {cs cs':List S} (h:LeL cs cs'):LeB (.loop s p ps asg body cs) (.loop s p ps asg body cs')
theorem leB_eq{x y:B}(h:leB x y):LeB x y:=by
 unfold leB at h
 split at h
 ·exact .gh (leX_eq h)
 ·obtain ⟨rfl,rfl,rfl,rfl,rfl,h⟩:=h;exact .lp (leX_eq h)
 ·rw [eqBP_eq h];exact .rfl
theorem leT2_at: ∀{t t':List B},leT2 t t'→ ∀k,LeB (tat t k) (tat t' k)
 | [], [],_,k=> .rfl
 |x::xs,y::ys,h,0=>leB_eq h.1
 |x::xs,y::ys,h,k+1=>by
  have:=leT2_at h.2 k
  simpa [tat] using this
 | [],_::_,h,_=>h.elim
 |_::_, [],h,_=>h.elim
theorem weak_t2{env env':List S}{t t':List B}(ht:leT2 t t')(h:leX env env'):Weak ⟨env,t⟩ ⟨env',t'⟩:=by
 intro old bs w0 a W ι hr
 have hle:=leT2_at ht
 have hver:verT (tat t')=verT (tat t):=by
  funext k;unfold verT
  have:=hle k
  generalize tat t k=x at this;generalize tat t' k=y at this
  cases this<;>rfl
 have hlive: ∀k,(tat t' k).live=(tat t k).live:=by
  intro k
  have:=hle k
  generalize tat t k=x at this;generalize tat t' k=y at this
  cases this<;>rfl
 have hloop: ∀k,(tat t' k).isLoop=(tat t k).isLoop:=by
  intro k
  have:=hle k
  generalize tat t k=x at this;generalize tat t' k=y at this
  cases this<;>rfl
 have hokT:okT bs (tat t') ι=okT bs (tat t) ι:=by funext b;unfold okT;simp only [hlive]
 refine ⟨ι,hr.defers,hr.oldIn,hr.fr, ?_, ?_,fun k=> ?hgh,fun i j hi hj=>hr.lap i j (by rw [←hloop];exact hi) (by rw [←hloop];exact hj),hr.rnd⟩
 case hgh=>
  have hg:=hr.gh k
  show GhOk W old ι (verT (tat t')) (okT bs (tat t') ι) (w0.gs k) k (tat t' k)
  rw [hver,hokT]
  have:=hle k
  rw [show (⟨env,t⟩:St).t=t from rfl] at hg
  generalize verT (tat t)=vr at hg ⊢
  generalize okT bs (tat t) ι=ok at hg ⊢
  generalize tat t k=x at this hg;generalize tat t' k=y at this
  cases this with
  |rfl=>exact hg
  |gh h=>exact h.den hg
  |lp h=>obtain ⟨h1,h2,h3,h4,h5⟩:=hg;exact ⟨h1,h2,h3,h4,h.den h5⟩
 ·refine ⟨hr.tok.bsn,fun k=> ?_,fun i j b hi hj=>by
   simp only [hlive] at hi hj;exact hr.tok.apart i j b hi hj⟩
  have he:=hr.tok.ent k
  show EntOk W old ι (verT (tat t')) (okT bs (tat t') ι) k (tat t' k)
  rw [hver,hokT]
  have:=hle k
  rw [show (⟨env,t⟩:St).t=t from rfl] at he
  generalize verT (tat t)=vr at he ⊢
  generalize okT bs (tat t) ι=ok at he ⊢
  generalize tat t k=x at this he;generalize tat t' k=y at this
  cases this with
  |rfl=>exact he
  |gh h=>trivial
  |lp h=>exact he
 ·show SDenL W ι (verT (tat t')) (okT bs (tat t') ι) env' _
  rw [hver,hokT];exact (leX_eq h).den hr.env
theorem weak_l{env env':List S}{t t':List B}(ht:leT2 (trimD (mapX (renB t) t)) t')(h:leX (mapX (renN t 3) env) env'):Weak ⟨env,t⟩ ⟨env',t'⟩:=(weak_ren env t).trans (weak_t2 ht h)
end Go.Nv
end
