import Derived.Test.YtdjbkccoofcnjaaGreatNvD17
import Derived.Test.YtdjbkccoofcnjaaGreatNvD4
import Derived.Test.YtdjbkccoofcnjaaGreatNvD16
import Derived.Test.YtdjbkccoofcnjaaGreatNvD15
import Derived.Test.YtdjbkccoofcnjaaGreatNvD14
set_option linter.all false
set_option maxRecDepth 100000
section
namespace Go.Nv
open Go.Proofs Nw
theorem so_ins(a:Rat): ∀ys:List Rat,ys.Pairwise (· ≤ ·)→ ∃zs:List Rat,zs.Perm (a::ys)∧zs.Pairwise (· ≤ ·)
 | [],_=>⟨[a],List.Perm.refl _,by simp⟩
 |b::t,h=>by
  have h':=List.pairwise_cons.1 h
  by_cases c:a≤b
  ·refine ⟨a::b::t,List.Perm.refl _,List.pairwise_cons.2 ⟨fun z hz=> ?_,h⟩⟩
   rcases List.mem_cons.1 hz with rfl|hz
   ·exact c
   ·exact Rat.le_trans c (h'.1 z hz)
  ·obtain ⟨zs,h1,h2⟩:=so_ins a t h'.2
   refine ⟨b::zs,(List.Perm.cons b h1).trans (List.Perm.swap a b t),List.pairwise_cons.2 ⟨fun z hz=> ?_,h2⟩⟩
   rcases List.mem_cons.1 (h1.mem_iff.1 hz) with rfl|hz
   ·grind
   ·exact h'.1 z hz
theorem so_ex: ∀l:List Rat,∃ys:List Rat,ys.Perm l∧ys.Pairwise (· ≤ ·)
 | [] =>⟨[],List.Perm.refl _,List.Pairwise.nil⟩
 |a::l=>by
  obtain ⟨ys,h1,h2⟩:=so_ex l
  obtain ⟨zs,h3,h4⟩:=so_ins a ys h2
  exact ⟨zs,h3.trans (List.Perm.cons a h1),h4⟩
theorem ed_len(o:List P2)(hs:List (List P2)):(cyc o++hs.flatMap cyc).length=o.length+(hs.map List.length).sum:=by
 rw [List.length_append,cyc_len]
 congr 1
 induction hs with
 |nil=>rfl
 |cons h hs ih=>rw [List.flatMap_cons,List.length_append,cyc_len,ih,List.map_cons,List.sum_cons]
theorem g22_pt{o:List (RD×RD)}{hs:List (List (RD×RD))}(h:g22 o hs=false)(ho:o.length≤64)(hh:hs.length≤8):nPt o hs≤12:=by
 unfold g22 at h
 rw [Bool.or_eq_false_iff,decide_eq_false_iff_not] at h
 refine Classical.byContradiction fun hn=>h.2 ⟨by omega,ho,hh⟩
theorem lines_x1{o:List (RD×RD)}{hs:List (List (RD×RD))}{e:Int}(r:RD)(he:e≠0)(hck:Fun Tryz.prog 48 [pgR o hs] [i64 e]):Fun Tryz.prog 41 [pgR o hs,rdD r] [.l (pL []),i64 1] :=by
 refine fun_of_go (fun t=>false) mixed tOk Tryz.func41 rfl rfl ?_
 conv=>whnf
 refine call_data rfl rfl (Edges1_x he hck) ?_
 conv=>whnf
 refine cond_bt (by decide) ?_
 conv=>whnf
 refine ⟨?_, ?_,trivial⟩
 ·conv=>whnf
  rfl
 ·conv=>whnf
theorem flines_x1{o:List (RD×RD)}{hs:List (List (RD×RD))}{e:Int}(r:RD)(he:e≠0)(hck:Fun Tryz.prog 83 [pgR o hs] [i64 e]):Fun Tryz.prog 42 [pgR o hs,rdD r] [.l (pL []),i64 1] :=by
 refine fun_of_go (fun t=>false) mixed tOk Tryz.func42 rfl rfl ?_
 conv=>whnf
 refine call_data rfl rfl (fEdges1_x he hck) ?_
 conv=>whnf
 refine cond_bt (by decide) ?_
 conv=>whnf
 refine ⟨?_, ?_,trivial⟩
 ·conv=>whnf
  rfl
 ·conv=>whnf
theorem lines_x2{o:List P2}{hs:List (List P2)}{E:List (P2×P2)}{r:RD}(hr:Sz r)(h:okN r≠0)(hed:Fun Tryz.prog 103 [.a [.l (pL o),.l (hQ hs)]] [.l (eL E),i64 0]):Fun Tryz.prog 41 [.a [.l (pL o),.l (hQ hs)],rdD r] [.l (pL []),i64 1] :=by
 refine fun_of_go (fun t=>false) mixed tOk Tryz.func41 rfl rfl ?_
 conv=>whnf
 refine call_data rfl rfl hed ?_
 conv=>whnf
 refine cond_bf (by decide) ?_
 conv=>whnf
 refine call_data rfl rfl (check_r r hr) ?_
 conv=>whnf
 refine cond_ne (fun c=> ?_) (fun c=>absurd c h)
 conv=>whnf
 refine ⟨?_, ?_,trivial⟩
 ·conv=>whnf
  rfl
 ·conv=>whnf
theorem flines_x2{o:List P2}{hs:List (List P2)}{E:List (P2×P2)}{r:RD}(hr:Sz r)(h:okN r≠0)(hed:Fun Tryz.prog 107 [.a [.l (pL o),.l (hQ hs)]] [.l (eL E),i64 0]):Fun Tryz.prog 42 [.a [.l (pL o),.l (hQ hs)],rdD r] [.l (pL []),i64 1] :=by
 refine fun_of_go (fun t=>false) mixed tOk Tryz.func42 rfl rfl ?_
 conv=>whnf
 refine call_data rfl rfl hed ?_
 conv=>whnf
 refine cond_bf (by decide) ?_
 conv=>whnf
 refine call_data rfl rfl (rcheck_r r hr) ?_
 conv=>whnf
 refine cond_ne (fun c=> ?_) (fun c=>absurd c h)
 conv=>whnf
 refine ⟨?_, ?_,trivial⟩
 ·conv=>whnf
  rfl
 ·conv=>whnf
def bigB(r:RD):Bool:=decide (24<r.num.size+r.den.size)
def Sw(r:RD):Prop:=r.num.size≤140737488351232∧r.den.size≤140737488351232
theorem big_c(r:RD)(hr:Sw r):Fun Tryz.prog 40 [rdD r] [.v (.bool (bigB r))] :=by
 unfold Sw at hr
 refine fun_of_go (fun t=>false) mixed tOk Tryz.func40 rfl rfl ?_
 conv=>whnf
 refine sd_d (by omega) ?_
 conv=>whnf
 refine ⟨?_,trivial⟩
 conv=>whnf
 rw [bz_eq]
 unfold bigB
 rw [decide_eq_decide]
 omega
theorem idx71d{f:FuncId}{cap:List D}(g:RD→Bool)(l:List RD)(hl:l.length<1000000000)(h: ∀p∈l,Fun Tryz.prog f ([rdD p] ++cap) [.v (.bool (g p))]):
  Fun Tryz.prog 71 [.l (dL l),.f f cap] [i64 (fstI g l)] :=by
 have hll:(dL l).length=l.length:=by simp
 refine fun_of_go (fun t=>false) mixed tOk Tryz.func71 rfl rfl ?_
 conv=>whnf
 refine loop_intro (fun t=>false) (fun i:Nat=>⟨fr 19 [(0,.d (.l (dL l))),(1,.d (.f f cap)),(7,.d (i64 (dL l).length)),(8,.d (i64 i))], []⟩) (fun i=>i≤l.length∧ ∀j (hj:j<i) (hjl:j<l.length),g l[j] =false) (fun i=>l.length-i) 0 mixed tOk ⟨by omega,fun j hj=>by omega⟩ ?_ ?_
 ·refine weak_r ?_ ?_<;>repeat' (first|exact trivial|exact rfl|apply And.intro)
 ·rintro i ⟨hi,hno⟩
  conv=>whnf
  refine cond_d (fun hlt=> ?_) (fun hge=> ?_)
  ·have hlt':i<l.length:=by omega
   conv=>whnf
   refine idx_intro (rdD l[i]) (dL_get hlt') (by omega) (dL_uni l) ?_
   conv=>whnf
   refine call_data rfl rfl (h l[i] (List.getElem_mem _)) ?_
   conv=>whnf
   refine cond_intro (fun h1=> ?_) (fun h1=> ?_)
   ·rw [fstI_at hlt' (fun j hj=>hno j hj (by omega)) h1]
    conv=>whnf
    exact ⟨rfl,trivial⟩
   ·conv=>whnf
    refine sd_d (by omega) ?_
    conv=>whnf
    refine ⟨i+1,⟨by omega,fun j hj hjl=> ?_⟩,by omega, ?_⟩
    ·by_cases hji:j=i
     ·subst hji;exact h1
     ·exact hno j (by omega) hjl
    rw [Int.natCast_succ]
    refine weak_r ?_ ?_<;>repeat' (first|exact trivial|exact rfl|apply And.intro)
  ·have:i=l.length:=by omega
   subst this
   rw [fstI_no (fun j hj=>hno j hj hj)]
   conv=>whnf
   exact ⟨rfl,trivial⟩
theorem contains18d{f:FuncId}{cap:List D}(g:RD→Bool)(l:List RD)(hl:l.length<1000000000)(h: ∀p∈l,Fun Tryz.prog f ([rdD p] ++cap) [.v (.bool (g p))]):
  Fun Tryz.prog 18 [.l (dL l),.f f cap] [.v (.bool (l.any g))] :=by
 refine fun_of_go (fun t=>false) mixed tOk Tryz.func18 rfl rfl ?_
 conv=>whnf
 refine call_data rfl rfl (idx71d g l hl h) ?_
 conv=>whnf
 refine ⟨?_,trivial⟩
 conv=>whnf
 rw [bz_eq, ←fstI_any]
def zr:RD:=⟨false,emp,emp⟩
theorem law8a(hA:Fun Tryz.prog 12 [] [.v (.bool true)])(o:List (RD×RD))(hs:List (List (RD×RD)))(y:RD)(l:List RD)(c r:Int)
  (h:g22 o hs=true∨(g22 o hs=false∧(gtR y=true∨(gtR y=false∧(40<l.length∨(l.length≤40∧(∀x∈l,Sw x)∧l.any bigB=true)))))):
  Fun Tryz.prog 8 [pgR o hs,rdD y,.l (dL l),i64 c,i64 r] [.v (.bool true)] :=by
 have hll:(dL l).length=l.length:=by simp
 have hg:=great22_c o hs
 have h7:=great7 [(zr,y)] (by simp)
 have hzy: [(zr,y)].any gtP=gtR y:=by
  simp only [List.any_cons,List.any_nil,Bool.or_false]
  unfold gtP
  have:gtR zr=false:=by decide
  rw [this,Bool.false_or]
 rw [hzy] at h7
 rcases h with h|⟨h,h|⟨h2,h|⟨h3,hz,h⟩⟩⟩
 ·rw [h] at hg
  refine fun_of_go (fun t=>false) mixed tOk Tryz.func8 rfl rfl ?_
  conv=>whnf
  refine call_data rfl rfl hg ?_
  conv=>whnf
  refine call_data rfl rfl hA ?_
  conv=>whnf
  exact ⟨rfl,trivial⟩
 ·rw [‹g22 o hs=false›] at hg
  rw [h] at h7
  refine fun_of_go (fun t=>false) mixed tOk Tryz.func8 rfl rfl ?_
  conv=>whnf
  refine call_data rfl rfl hg ?_
  conv=>whnf
  refine call_eq rfl rfl h7 rfl ?_
  conv=>whnf
  refine call_data rfl rfl hA ?_
  conv=>whnf
  exact ⟨rfl,trivial⟩
 ·rw [‹g22 o hs=false›] at hg
  rw [h2] at h7
  refine fun_of_go (fun t=>false) mixed tOk Tryz.func8 rfl rfl ?_
  conv=>whnf
  refine call_data rfl rfl hg ?_
  conv=>whnf
  refine call_eq rfl rfl h7 rfl ?_
  conv=>whnf
  refine cond_dt (by omega) ?_
  conv=>whnf
  refine call_data rfl rfl hA ?_
  conv=>whnf
  exact ⟨rfl,trivial⟩
 ·rw [‹g22 o hs=false›] at hg
  rw [h2] at h7
  have hc:=contains18d (f:=40) (cap:= []) bigB l (by omega) (fun p hp=>big_c p (hz p hp))
  rw [h] at hc
  refine fun_of_go (fun t=>false) mixed tOk Tryz.func8 rfl rfl ?_
  conv=>whnf
  refine call_data rfl rfl hg ?_
  conv=>whnf
  refine call_eq rfl rfl h7 rfl ?_
  conv=>whnf
  refine cond_df (by omega) ?_
  conv=>whnf
  refine call_lend rfl rfl hc rfl ?_
  conv=>whnf
  refine call_data rfl rfl hA ?_
  conv=>whnf
  exact ⟨rfl,trivial⟩
theorem law8b(hA:Fun Tryz.prog 12 [] [.v (.bool true)]){o:List (RD×RD)}{hs:List (List (RD×RD))}{y:RD}{l:List RD}{c r:Int}{L:List P2}{e g:Int}{T:ByteArray}
  (h1:g22 o hs=false) (h2:gtR y=false) (h3:l.length≤40) (hz: ∀x∈l,Sw x) (h4:l.any bigB=false) (hL:L.length≤1000)
  (k1:Fun Tryz.prog 41 [pgR o hs,rdD y] [.l (pL L),i64 e]) (k2:Fun Tryz.prog 42 [pgR o hs,rdD y] [.l (pL L),i64 e])
  (k3:Fun Tryz.prog 43 [.l (dL l),i64 c,i64 r] [.v (.string T),i64 g]) (k4:Fun Tryz.prog 44 [.l (dL l),i64 c,i64 r] [.v (.string T),i64 g]):
  Fun Tryz.prog 8 [pgR o hs,rdD y,.l (dL l),i64 c,i64 r] [.v (.bool true)] :=by
 have hll:(dL l).length=l.length:=by simp
 have hg:=great22_c o hs
 have h7:=great7 [(zr,y)] (by simp)
 have hzy: [(zr,y)].any gtP=gtR y:=by
  simp only [List.any_cons,List.any_nil,Bool.or_false]
  unfold gtP
  have:gtR zr=false:=by decide
  rw [this,Bool.false_or]
 rw [hzy,h2] at h7
 rw [h1] at hg
 have hc:=contains18d (f:=40) (cap:= []) bigB l (by omega) (fun p hp=>big_c p (hz p hp))
 rw [h4] at hc
 have h5:=fsame5_c L (by omega)
 refine fun_of_go (fun t=>false) mixed tOk Tryz.func8 rfl rfl ?_
 conv=>whnf
 refine call_data rfl rfl hg ?_
 conv=>whnf
 refine call_eq rfl rfl h7 rfl ?_
 conv=>whnf
 refine cond_df (by omega) ?_
 conv=>whnf
 refine call_lend rfl rfl hc rfl ?_
 conv=>whnf
 refine call_data rfl rfl k1 ?_
 conv=>whnf
 refine call_data rfl rfl k2 ?_
 conv=>whnf
 refine call_data rfl rfl k3 ?_
 conv=>whnf
 refine call_data rfl rfl k4 ?_
 conv=>whnf
 refine call_data rfl rfl h5 ?_
 conv=>whnf
 refine cond_e (fun _=> ?_) (fun h=>absurd rfl h)
 conv=>whnf
 refine cond_intro (fun _=> ?_) (fun h=> ?_)
 ·conv=>whnf
  refine cond_e (fun _=> ?_) (fun h=>absurd rfl h)
  conv=>whnf
  refine call_data rfl rfl hA ?_
  conv=>whnf
  exact ⟨rfl,trivial⟩
 ·rw [bz_eq] at h
  rw [byt_beq] at h
  simp at h
theorem bigB_bd{r:RD}(h:bigB r=false):Bd 24 r.val:=by
 unfold bigB at h
 rw [decide_eq_false_iff_not] at h
 have bd: ∀s:ByteArray,s.size≤24→bv s≤256^24:=fun s h=>Nat.le_trans (Nat.le_of_lt (bvl_lt _)) (Nat.pow_le_pow_right (by omega) h)
 refine mkRat_bd (dv_ne _) ?_ ?_
 ·show (sg r.neg (bv r.num)).natAbs≤_
  rw [sg_abs];exact bd _ (by omega)
 ·have:=bd r.den (by omega)
  unfold dv
  split<;>omega
theorem law8(hA:Fun Tryz.prog 12 [] [.v (.bool true)])(o:List (RD×RD))(hs:List (List (RD×RD)))(y:RD)(l:List RD)(c r:Int)(hz: ∀x∈l,Sw x):Fun Tryz.prog 8 [pgR o hs,rdD y,.l (dL l),i64 c,i64 r] [.v (.bool true)] :=by
 cases hg:g22 o hs with
 |true=>exact law8a hA o hs y l c r (.inl hg)
 |false=>
 cases h2:gtR y with
 |true=>exact law8a hA o hs y l c r (.inr ⟨hg,.inl h2⟩)
 |false=>
 by_cases h3:40<l.length
 ·exact law8a hA o hs y l c r (.inr ⟨hg,.inr ⟨h2,.inl h3⟩⟩)
 cases h4:l.any bigB with
 |true=>exact law8a hA o hs y l c r (.inr ⟨hg,.inr ⟨h2,.inr ⟨by omega,hz,h4⟩⟩⟩)
 |false=>
 have hb: ∀x∈l,Bd 24 x.val:=fun x hx=>bigB_bd (by simpa using List.any_eq_false.1 h4 x hx)
 have hz': ∀x∈l,Sz x:=fun x hx=>by
  have:bigB x=false:=by simpa using List.any_eq_false.1 h4 x hx
  unfold bigB at this
  rw [decide_eq_false_iff_not] at this
  exact ⟨by omega,by omega⟩
 have k3:=print_c (c:=c) (r:=r) hz' hb (by omega) (by omega)
 have k4:=fprint_c (c:=c) (r:=r) hz' hb (by omega) (by omega)
 have hpo:=g22_ok hg
 have hgg:G11 o hs:=by
  unfold g22 at hg
  rw [Bool.or_eq_false_iff] at hg
  exact g11_f hg.1
 have hck:=pcheck_o hpo (show 12<1000000 by omega)
 have hfk:=fpcheck_c o hs (n:=12) (by omega) (by have:=hgg.lo;omega) hpo.lh hpo.ob hpo.hb (fun h hh=>by have:=hgg.hl h hh;omega)
 have hys:=gtR_sz h2
 by_cases hp:pgE o hs≠0
 ·exact law8b hA hg h2 (by omega) hz h4 (by simp) (lines_x1 y hp hck) (flines_x1 y hp hfk) k3 k4
 replace hp:pgE o hs=0:=Classical.not_not.1 hp
 have by':Bd 12 y.val:=gtR_bd h2
 rw [hp] at hck hfk
 obtain ⟨z1,z2,z3,z4⟩:=pgE_zero hp
 obtain ⟨o1,o2,o3,o4⟩:=rgR_zero z1
 have epg:pgR o hs= .a [.l (pL (o.map vP)),.l (hQ (hs.map (List.map vP)))] :=by
  unfold pgR;rw [rL_can o1,hR_can (fun l hl=>(rgR_zero (z2 l hl)).1)]
 have ob: ∀p∈o.map vP,BP 12 p:=fun p hp=>by obtain ⟨q,hq,rfl⟩:=List.mem_map.1 hp;exact (hpo.ob q hq).1
 have hbb: ∀x∈hs.map (List.map vP),(∀p∈x,BP 12 p)∧x.length≤100:=fun x hx=>by
  obtain ⟨q,hq,rfl⟩:=List.mem_map.1 hx
  refine ⟨fun p hp=>by obtain ⟨r,hr,rfl⟩:=List.mem_map.1 hp;exact (hpo.hb q hq r hr).1, ?_⟩
  have:=rgR_zero (z2 q hq)
  rw [List.length_map];omega
 have ol:(o.map vP).length≤100:=by rw [List.length_map];omega
 have hhl:(hs.map (List.map vP)).length≤8:=by rw [List.length_map];exact z3
 have hpt:=g22_pt hg o4 z3
 rw [epg] at hck hfk
 have hed:=Edges1_c ob ol hbb (by omega) hhl hck
 have hfd:=fEdges1_c ol (fun h hx=>(hbb h hx).2) hhl hfk
 by_cases hv:okN y≠0
 ·have k1:=lines_x2 hys hv hed
  have k2:=flines_x2 hys hv hfd
  rw [←epg] at k1 k2
  exact law8b hA hg h2 (by omega) hz h4 (by simp) k1 k2 k3 k4
 replace hv:okN y=0:=Classical.not_not.1 hv
 have evy:rdD y=ratD y.val:=co_rd hv
 have hE:(cyc (o.map vP)++(hs.map (List.map vP)).flatMap cyc).length≤12:=by
  rw [ed_len,List.length_map,List.map_map]
  have e:(hs.map (List.length∘List.map vP))=hs.map List.length:=List.map_congr_left fun h _=>by simp
  rw [e]
  exact hpt
 have hev:=crL_even y.val (o.map vP) (hs.map (List.map vP))
 obtain ⟨M,hM⟩: ∃M,(crL y.val (cyc (o.map vP)++(hs.map (List.map vP)).flatMap cyc)).length=2*M:=⟨(crL y.val (cyc (o.map vP)++(hs.map (List.map vP)).flatMap cyc)).length/2,by omega⟩
 obtain ⟨ys,hpp,hss⟩:=so_ex (crL y.val (cyc (o.map vP)++(hs.map (List.map vP)).flatMap cyc))
 have k1:=lines_c ob ol hbb (by omega) by' hhl hck rfl hE hM hpp hss
 have k2:=flines_c ob ol hbb (by omega) by' hhl hfk rfl hE hM hpp hss
 rw [←epg, ←evy] at k1 k2
 have hMl:M≤6:=by have:=crL_len y.val (cyc (o.map vP)++(hs.map (List.map vP)).flatMap cyc);omega
 have hLl:(nmL (prL ys M) (prL ys M).length).length≤1000:=by
  have h1:=nmL_len (l:=prL ys M) (prL ys M).length (Nat.le_refl _)
  have h2:=prL_len ys M
  omega
 exact law8b hA hg h2 (by omega) hz h4 hLl k1 k2 k3 k4
end Go.Nv
end
