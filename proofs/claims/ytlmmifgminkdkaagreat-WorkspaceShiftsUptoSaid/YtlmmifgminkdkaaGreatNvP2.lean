import Derived.Test.YtlmmifgminkdkaaGreatNvP1
set_option linter.all false
set_option maxRecDepth 100000
section
namespace Nw
theorem qp4{H:Hf}{p q:P2}(hp:0<=H.s p)(hq:0<=H.s q):qfh H (p,q)= [p] :=by
 simp only [qfh];rw [if_pos hp,if_neg (by grind)];rfl
theorem qqp(c:Rat)(p:P2):Hf.s ⟨true,true,c⟩ p=p.1-c:=by simp [Hf.s]
theorem qlo(c:Rat)(p:P2):Hf.s ⟨true,false,c⟩ p=c-p.1:=by simp [Hf.s]
theorem qly(c:Rat)(p:P2):Hf.s ⟨false,true,c⟩ p=p.2-c:=by simp [Hf.s]
theorem qlN(c:Rat)(p:P2):Hf.s ⟨false,false,c⟩ p=c-p.2:=by simp [Hf.s]
def upI(p q:P2):Int:=if p.2<q.2\/(p.2=q.2/\q.1<p.1) then 1 else 0
theorem qp3{p q:Prop}[Decidable p][Decidable q]{α:Type}{x y:α}(h:p↔q):(if p then x else y)=if q then x else y:=by
 by_cases hp:p
 ·rw [if_pos hp,if_pos (h.1 hp)]
 ·rw [if_neg hp,if_neg (fun hq=>hp (h.2 hq))]
theorem qxJ{p q p' q':Prop}[Decidable p][Decidable q][Decidable p'][Decidable q']{α:Type}{x y z:α}(h:p↔p')(k:q↔q'):(if p then x else if q then y else z)=if p' then x else if q' then y else z:=by
 rw [qp3 h,qp3 k]
theorem qw8{A B A' B':Rat}{P Ub Ua:Prop}[Decidable P][Decidable Ub][Decidable Ua](a1:0<A->0<A'/\A'<A)(a2:A<0->A<A'/\A'<0)(a3:A=0->A'=0)
  (b1:0<B->0<B'/\B'<B) (b2:B<0->B<B'/\B'<0) (b3:B=0->B'=0) (c1:A<B->A'<B') (c2:A=B->A'=B') (c3:B<A->B'<A')
  (u1:0<B->Ub) (u2:B<0-> ¬Ub) (u3:B=0->(0<A/\(Ub↔P))\/(A<0/\(Ub↔ ¬P))) (v1:0<A-> ¬Ua) (v2:A<0->Ua) (v3:A=0->(0<B/\(Ua↔P))\/(B<0/\(Ua↔ ¬P))):
  ((if A'<A/\A<=B'/\P then (1:Int) else if B'<A/\A<=A'/\ ¬P then-1 else 0)-(if A'<B/\B<=B'/\P then (1:Int) else if B'<B/\B<=A'/\ ¬P then-1 else 0))
   +(if 0<=A'/\A'<B/\ ¬P then (1:Int) else if B<=A'/\A'<0/\P then-1 else 0)-(if A<=B'/\B'<0/\ ¬P then (1:Int) else if 0<=B'/\B'<A/\P then-1 else 0)
  =(if Ub then 1 else 0)-(if Ua then 1 else 0):=by
 rcases Std.lt_trichotomy A 0 with hA|hA|hA<;>rcases Std.lt_trichotomy B 0 with hB|hB|hB<;>rcases Std.lt_trichotomy A B with hC|hC|hC<;>by_cases hP:P<;>grind
theorem qu0{a v b:P2}{d:Rat}(h0:0<d)(h1:d<1)(hk:orQ a v b≠0):
  (qj3 (lin v a d) (lin v b d) a-qj3 (lin v a d) (lin v b d) b)+crI v b (lin v a d)-crI a v (lin v b d)=upI v b-upI a v:=by
 obtain ⟨k,hk'⟩: ∃k,k=(a.1-v.1)*(b.2-v.2)-(a.2-v.2)*(b.1-v.1):=⟨_,rfl⟩
 have hk0:k≠0:=by
  intro h;apply hk;simp only [orQ];grind
 have hd1:0<d*(1-d):=Rat.mul_pos h0 (by grind)
 have o1:orQ (lin v a d) (lin v b d) a=d*(1-d)*(-k):=by simp only [orQ,lin];grind
 have o2:orQ (lin v b d) (lin v a d) a=d*(1-d)*k:=by simp only [orQ,lin];grind
 have o3:orQ (lin v a d) (lin v b d) b=d*(1-d)*(-k):=by simp only [orQ,lin];grind
 have o4:orQ (lin v b d) (lin v a d) b=d*(1-d)*k:=by simp only [orQ,lin];grind
 have o5:orQ v b (lin v a d)=d*(-k):=by simp only [orQ,lin];grind
 have o6:orQ b v (lin v a d)=d*k:=by simp only [orQ,lin];grind
 have o7:orQ a v (lin v b d)=d*(-k):=by simp only [orQ,lin];grind
 have o8:orQ v a (lin v b d)=d*k:=by simp only [orQ,lin];grind
 have g1:d*(1-d)*(-k)<0↔0<k:=by rw [qaS hd1];constructor<;>intro _<;>grind
 have g2:d*(1-d)*k<0↔ ¬0<k:=by rw [qaS hd1];constructor<;>intro _<;>grind
 have g3:0<d*(-k)↔ ¬0<k:=by rw [qaz h0];constructor<;>intro _<;>grind
 have g4:0<d*k↔0<k:=qaz h0
 have mono: ∀x y:Rat,x<y->x*d<y*d:=fun x y h=>Rat.mul_lt_mul_of_pos_right h h0
 have shr: ∀x:Rat,0<x->x*d<x:=fun x h=>by have:=Rat.mul_lt_mul_of_pos_left h1 h;grind
 have main:=qw8 (A:=a.2-v.2) (B:=b.2-v.2) (A':=(a.2-v.2)*d) (B':=(b.2-v.2)*d) (P:=0<k)
  (Ub:=v.2<b.2\/(v.2=b.2/\b.1<v.1)) (Ua:=a.2<v.2\/(a.2=v.2/\v.1<a.1))
  (fun h=>⟨Rat.mul_pos h h0,shr _ h⟩) (fun h=>by have:=shr (-(a.2-v.2)) (by grind);have:=mono _ _ h;grind) (fun h=>by rw [h];grind)
  (fun h=>⟨Rat.mul_pos h h0,shr _ h⟩) (fun h=>by have:=shr (-(b.2-v.2)) (by grind);have:=mono _ _ h;grind) (fun h=>by rw [h];grind)
  (mono _ _) (fun h=>by rw [h]) (mono _ _)
  (fun h=> .inl (by grind)) (fun h=>by grind)
  (fun h=>by
   have e:k=(a.2-v.2)*(v.1-b.1):=by rw [hk',h];grind
   rcases Std.lt_trichotomy (a.2-v.2) 0 with c|c|c
   ·right
    refine ⟨c, ?_⟩
    have m:=qaz (x:= -(a.2-v.2)) (y:=b.1-v.1) (by grind)
    constructor
    ·intro hu hp;have:=m.1 (by grind);grind
    ·intro hn;right;refine ⟨by grind, ?_⟩
     have m2:=qaS (x:= -(a.2-v.2)) (y:=b.1-v.1) (by grind)
     have:=m2.1 (by grind);grind
   ·exact absurd (by rw [e,c];grind) hk0
   ·left
    refine ⟨c, ?_⟩
    have m:=qaz (x:=a.2-v.2) (y:=v.1-b.1) c
    rw [e,m]
    constructor
    ·intro hu;grind
    ·intro hn;right;exact ⟨by grind,by grind⟩)
  (fun h=>by grind) (fun h=> .inl (by grind))
  (fun h=>by
   have e:k=(b.2-v.2)*(a.1-v.1):=by rw [hk',h];grind
   rcases Std.lt_trichotomy (b.2-v.2) 0 with c|c|c
   ·right
    refine ⟨c, ?_⟩
    have m:=qaz (x:= -(b.2-v.2)) (y:=v.1-a.1) (by grind)
    have m2:=qaS (x:= -(b.2-v.2)) (y:=v.1-a.1) (by grind)
    constructor
    ·intro hu hp;have:=m.1 (by grind);grind
    ·intro hn;right;refine ⟨by grind, ?_⟩
     have:=m2.1 (by grind);grind
   ·exact absurd (by rw [e,c];grind) hk0
   ·left
    refine ⟨c, ?_⟩
    have m:=qaz (x:=b.2-v.2) (y:=a.1-v.1) c
    rw [e,m]
    constructor
    ·intro hu;grind
    ·intro hn;right;exact ⟨by grind,by grind⟩)
 unfold qj3 crI upI
 rw [o1,o2,o3,o4,o5,o6,o7,o8]
 rw [<-main]
 have tr: ∀{x y z x' y' z':Prop},(x↔x')->(y↔y')->(z↔z')->(x/\y/\z↔x'/\y'/\z'):=fun a b c=>by rw [a,b,c]
 have l1: ∀p q:P2,(lin p q d).2=p.2+(q.2-p.2)*d:=fun p q=>rfl
 congr 1
 ·congr 1
  ·congr 1
   ·exact qxJ (tr (by rw [l1];constructor<;>intro _<;>grind) (by rw [l1];constructor<;>intro _<;>grind) g1) (tr (by rw [l1];constructor<;>intro _<;>grind) (by rw [l1];constructor<;>intro _<;>grind) g2)
   ·exact qxJ (tr (by rw [l1];constructor<;>intro _<;>grind) (by rw [l1];constructor<;>intro _<;>grind) g1) (tr (by rw [l1];constructor<;>intro _<;>grind) (by rw [l1];constructor<;>intro _<;>grind) g2)
  ·exact qxJ (tr (by rw [l1];constructor<;>intro _<;>grind) (by rw [l1];constructor<;>intro _<;>grind) g3) (tr (by rw [l1];constructor<;>intro _<;>grind) (by rw [l1];constructor<;>intro _<;>grind) g4)
 ·exact qxJ (tr (by rw [l1];constructor<;>intro _<;>grind) (by rw [l1];constructor<;>intro _<;>grind) g3) (tr (by rw [l1];constructor<;>intro _<;>grind) (by rw [l1];constructor<;>intro _<;>grind) g4)
def qgU(f:P2->P2->Int):List (P2×P2)->Int
 | [] =>0
 |e::l=>f e.1 e.2+qgU f l
theorem qeZ(f:P2->P2->Int): ∀a b:List (P2×P2),qgU f (a++b)=qgU f a+qgU f b
 | [],b=>by simp only [List.nil_append,qgU];omega
 |e::a,b=>by simp only [List.cons_append,qgU,qeZ f a b];omega
theorem qfc: ∀(l m:List P2) (a:P2),prs a (l++m)=prs a l++prs (qbh a l) m
 | [],m,a=>rfl
 |b::l,m,a=>by simp only [List.cons_append,prs,qbh,qfc l m b]
theorem qjC{p q:P2}: ∀(l:List P2) (a:P2),(∀e∈prs a l,Disj p q e.1 e.2)->
  qgU (fun u v=>crI u v p) (prs a l)-qgU (fun u v=>crI u v q) (prs a l)=qj3 p q (qbh a l)-qj3 p q a
 | [],a,_=>by simp only [prs,qgU,qbh];omega
 |b::l,a,h=>by
  have h1:=qtJ (h (a,b) (by simp [prs]))
  have h2:=qjC (p:=p) (q:=q) l b (fun e he=>h e (by simp only [prs];exact List.mem_cons_of_mem _ he))
  simp only [prs,qgU,qbh] at h1 h2 ⊢
  omega
def Rot(l l':List P2):Prop:= ∃x y,l=x++y/\l'=y++x
theorem Rot.self(l:List P2):Rot l l:=⟨[],l,by simp,by simp⟩
theorem Rot.step{l t:List P2}{a:P2}(h:Rot l (a::t)):Rot l (t++ [a]):=by
 obtain ⟨x,y,h1,h2⟩:=h
 cases y with
 |nil=>simp at h1 h2;subst h1;exact ⟨[a],t,by rw [<-h2];rfl,rfl⟩
 |cons b y=>
  simp at h2
  obtain ⟨rfl,rfl⟩:=h2
  exact ⟨x++ [a],y,by simp [h1],by simp⟩
theorem Rot.back{l t:List P2}{a:P2}(h:Rot l (t++ [a])):Rot l (a::t):=by
 obtain ⟨x,y,h1,h2⟩:=h
 rcases List.eq_nil_or_concat x with rfl|⟨x',b,rfl⟩
 ·simp at h1 h2;subst h1;exact ⟨t, [a],by rw [<-h2],rfl⟩
 ·rw [List.concat_eq_append] at h1 h2
  rw [<-List.append_assoc] at h2
  obtain ⟨rfl,h3⟩:=List.append_inj' h2 (by simp)
  simp at h3
  subst h3
  exact ⟨x',a::y,by simp [h1],by simp⟩
theorem Rot.len{l l':List P2}(h:Rot l l'):l'.length=l.length:=by
 obtain ⟨x,y,rfl,rfl⟩:=h
 simp;omega
structure qeI (l:List P2):Prop where
 len:3<=l.length
 cor: ∀a b c r,Rot l (a::b::c::r)->orQ a b c≠0
 dis: ∀a b c r,Rot l (a::b::c::r)-> ∀e∈prs c r,Disj a b e.1 e.2
theorem qpy{a b c:P2}(h:orQ a b c≠0):a≠b/\b≠c:=by
 constructor
 ·rintro rfl;apply h;simp only [orQ];grind
 ·rintro rfl;apply h;simp only [orQ];grind
theorem qmM{s t k:Rat}(hs:0<s/\s<1)(ht:0<t/\t<1)(hk:0<=k/\k<=1):0<s+(t-s)*k/\s+(t-s)*k<1:=by
 have a1:=Rat.mul_nonneg hk.1 (Rat.le_of_lt ht.1)
 have a2:=Rat.mul_nonneg (show 0<=1-k by grind) (Rat.le_of_lt hs.1)
 have b1:=Rat.mul_nonneg hk.1 (show 0<=1-t by grind)
 have b2:=Rat.mul_nonneg (show 0<=1-k by grind) (show 0<=1-s by grind)
 by_cases h:k=0
 ·subst h;constructor<;>grind
 ·have a3:=Rat.mul_pos (show 0<k by grind) ht.1
  have b3:=Rat.mul_pos (show 0<k by grind) (show 0<1-t by grind)
  constructor<;>grind
theorem qfo{a b c:P2}{s t:Rat}(h:orQ a b c≠0)(hs:0<s/\s<1)(ht:0<t/\t<1):Disj (lin a b s) (lin a b t) b c:=by
 intro k k' k0 k1 k0' k1' e
 rw [qf2] at e
 have hm:=qmM hs ht ⟨k0,k1⟩
 generalize s+(t-s)*k=z at*
 have e1:orQ a b (lin a b z)=0:=by simp only [orQ,lin];grind
 have e2:orQ a b (lin b c k')=k'*orQ a b c:=by simp only [orQ,lin];grind
 rw [e,e2] at e1
 have hk:k'=0:=by
  rcases Rat.mul_eq_zero.1 e1 with h'|h'
  ·exact h'
  ·exact absurd h' h
 subst hk
 rw [qaw] at e
 have hab:=(qpy h).1
 simp only [lin,Prod.ext_iff] at e
 apply hab
 have:(1-z)≠0:=by grind
 refine Prod.ext ?_ ?_<;>grind
theorem qhO{z a b:P2}{s t:Rat}(h:orQ z a b≠0)(hs:0<s/\s<1)(ht:0<t/\t<1):Disj (lin a b s) (lin a b t) z a:=by
 have h2:orQ b a z≠0:=by
  intro e;apply h;simp only [orQ] at e ⊢;grind
 have:=qfo (a:=b) (b:=a) (c:=z) (s:=1-s) (t:=1-t) h2 (by grind) (by grind)
 rw [<-qcl, <-qcl] at this
 exact this.swap2
theorem Disj.sub{a b u v:P2}{s t:Rat}(h:Disj a b u v)(hs:0<s/\s<1)(ht:0<t/\t<1):Disj (lin a b s) (lin a b t) u v:=by
 intro k k' k0 k1 k0' k1' e
 rw [qf2] at e
 have hm:=qmM hs ht ⟨k0,k1⟩
 exact h _ _ (by grind) (by grind) k0' k1' e
theorem qnA{a b:P2}(s t k:Rat):qj3 (lin a b s) (lin a b t) (lin a b k)=0:=by
 have e1:orQ (lin a b s) (lin a b t) (lin a b k)=0:=by simp only [orQ,lin];grind
 have e2:orQ (lin a b t) (lin a b s) (lin a b k)=0:=by simp only [orQ,lin];grind
 unfold qj3
 rw [e1,e2,if_neg (by grind),if_neg (by grind)]
def nn(a b:P2)(t:List P2)(q:P2):Int:=qgU (fun u v=>crI u v q) (prs b (t++ [a]))
theorem qeI.last{l:List P2}(h:qeI l){a b c:P2}{r:List P2}(hr:Rot l (a::b::c::r)):orQ (qbh c r) a b≠0:=by
 have key: ∀(r:List P2) (c:P2),∃t,c::r=t++ [qbh c r] :=by
  intro r
  induction r with
  |nil=>intro c;exact ⟨[],rfl⟩
  |cons d r ih=>intro c;obtain ⟨t,ht⟩:=ih d;exact ⟨c::t,by simp only [qbh];rw [ht];rfl⟩
 obtain ⟨t,ht⟩:=key r c
 rw [ht] at hr
 have h2:Rot l (qbh c r::a::b::t):=Rot.back (t:=a::b::t) (by simpa using hr)
 exact h.cor _ _ _ _ h2
theorem qeI.along{l:List P2}(h:qeI l){a b c:P2}{r:List P2}(hr:Rot l (a::b::c::r)){s t:Rat}(hs:0<s/\s<1)(ht:0<t/\t<1):
  nn a b (c::r) (lin a b s)=nn a b (c::r) (lin a b t):=by
 have hc:=h.cor _ _ _ _ hr
 have hz:=h.last hr
 have hd:=h.dis _ _ _ _ hr
 have law:=qjC (p:=lin a b s) (q:=lin a b t) (c::r++ [a]) b (fun e he=>by
  simp only [List.cons_append,prs] at he
  rw [qfc] at he
  rcases List.mem_cons.1 he with rfl|he
  ·exact qfo hc hs ht
  ·rcases List.mem_append.1 he with he|he
   ·exact (hd e he).sub hs ht
   ·simp only [prs,List.mem_singleton] at he
    subst he
    exact qhO hz hs ht)
 rw [qbm] at law
 simp only [qbh] at law
 have r1:=qnA (a:=a) (b:=b) s t 0
 have r2:=qnA (a:=a) (b:=b) s t 1
 rw [qaw] at r1
 rw [qa6] at r2
 unfold nn
 omega
theorem qpU{x y:Rat}(h:0<x): ∃d:Rat,0<d/\ ∀e,0<e->e<d->0<x+(y-x)*e:=by
 by_cases hy:0<=y
 ·refine ⟨1,by grind,fun e e0 e1=> ?_⟩
  have:=Rat.mul_pos h (show 0<1-e by grind)
  have:=Rat.mul_nonneg hy (Rat.le_of_lt e0)
  grind
 ·have h3:0<x-y:=by grind
  refine ⟨x/(x-y), ?_,fun e e0 e1=> ?_⟩
  ·rw [Rat.div_def];exact Rat.mul_pos h (Rat.inv_pos.2 h3)
  ·have:=Rat.mul_lt_mul_of_pos_left e1 h3
   have e2:(x-y)*(x/(x-y))=x:=by
    have:x-y≠0:=by grind
    grind
   grind
def lf(g:Rat×Rat×Rat)(p:P2):Rat:=g.1*p.1+g.2.1*p.2+g.2.2
theorem qk8(g:Rat×Rat×Rat)(p q:P2)(t:Rat):lf g (lin p q t)=lf g p+(lf g q-lf g p)*t:=by simp only [lf,lin];grind
theorem qnq{x y:Rat}(h: ¬(x=0/\y=0)):0<x*x+y*y:=by
 have nn: ∀z:Rat,0<=z*z:=fun z=>by
  rcases Std.le_total (a:=0) (b:=z) with h|h
  ·exact Rat.mul_nonneg h h
  ·have:=Rat.mul_nonneg (show 0<= -z by grind) (show 0<= -z by grind);grind
 have h1:=nn x
 have h2:=nn y
 by_cases hx:x=0
 ·have hy:y≠0:=fun hy=>h ⟨hx,hy⟩
  have:y*y≠0:=fun e=>by rcases Rat.mul_eq_zero.1 e with e|e<;>exact hy e
  grind
 ·have:x*x≠0:=fun e=>by rcases Rat.mul_eq_zero.1 e with e|e<;>exact hx e
  grind
theorem qBl{u v b:P2}(h: ∀t:Rat,0<=t->t<=1->lin u v t≠b): ∃g,0<lf g b/\lf g u<=0/\lf g v<=0:=by
 have eo: ∀p:P2,lf (-(v.2-u.2),v.1-u.1,(v.2-u.2)*u.1-(v.1-u.1)*u.2) p=orQ u v p:=fun p=>by simp only [lf,orQ];grind
 have en: ∀p:P2,lf (v.2-u.2, -(v.1-u.1), -((v.2-u.2)*u.1-(v.1-u.1)*u.2)) p= -orQ u v p:=fun p=>by simp only [lf,orQ];grind
 have o1:orQ u v u=0:=by simp only [orQ];grind
 have o2:orQ u v v=0:=by simp only [orQ];grind
 rcases Std.lt_trichotomy (orQ u v b) 0 with c|c|c
 ·exact ⟨_,by rw [en];grind,by rw [en,o1];grind,by rw [en,o2];grind⟩
 ·by_cases huv:u=v
  ·subst huv
   have hb: ¬(b.1-u.1=0/\b.2-u.2=0):=fun hh=>h 0 (by grind) (by grind) (by rw [qaw];exact Prod.ext (by grind) (by grind))
   have:=qnq hb
   refine ⟨(b.1-u.1,b.2-u.2, -((b.1-u.1)*u.1+(b.2-u.2)*u.2)), ?_, ?_, ?_⟩<;>simp only [lf] <;>grind
  ·have hd: ¬(v.1-u.1=0/\v.2-u.2=0):=fun hh=>huv (Prod.ext (by grind) (by grind))
   have hs:=qnq hd
   have hsn:(v.1-u.1)*(v.1-u.1)+(v.2-u.2)*(v.2-u.2)≠0:=by grind
   obtain ⟨k,hk⟩: ∃k:Rat,k=((b.1-u.1)*(v.1-u.1)+(b.2-u.2)*(v.2-u.2))/((v.1-u.1)*(v.1-u.1)+(v.2-u.2)*(v.2-u.2)):=⟨_,rfl⟩
   have hk':k*((v.1-u.1)*(v.1-u.1)+(v.2-u.2)*(v.2-u.2))=(b.1-u.1)*(v.1-u.1)+(b.2-u.2)*(v.2-u.2):=by rw [hk];grind
   have hb:lin u v k=b:=by
    simp only [orQ] at c
    have f1:((v.1-u.1)*(v.1-u.1)+(v.2-u.2)*(v.2-u.2))*(u.1+(v.1-u.1)*k-b.1)=0:=by grind
    have f2:((v.1-u.1)*(v.1-u.1)+(v.2-u.2)*(v.2-u.2))*(u.2+(v.2-u.2)*k-b.2)=0:=by grind
    refine Prod.ext ?_ ?_
    ·rcases Rat.mul_eq_zero.1 f1 with e|e
     ·exact absurd e hsn
     ·simp only [lin];grind
    ·rcases Rat.mul_eq_zero.1 f2 with e|e
     ·exact absurd e hsn
     ·simp only [lin];grind
   generalize hz:(v.1-u.1)*(v.1-u.1)+(v.2-u.2)*(v.2-u.2)=z at*
   by_cases k0:0<=k
   ·have k1:1<k:=by
     have: ¬k<=1:=fun hh=>h k k0 hh hb
     grind
    refine ⟨(v.1-u.1,v.2-u.2, -((v.1-u.1)*v.1+(v.2-u.2)*v.2)), ?_, ?_, ?_⟩
    ·rw [<-hb,qk8]
     have e1:lf (v.1-u.1,v.2-u.2, -((v.1-u.1)*v.1+(v.2-u.2)*v.2)) u= -z:=by simp only [lf];grind
     have e2:lf (v.1-u.1,v.2-u.2, -((v.1-u.1)*v.1+(v.2-u.2)*v.2)) v=0:=by simp only [lf];grind
     rw [e1,e2]
     have:=Rat.mul_pos hs (show 0<k-1 by grind)
     grind
    ·have e1:lf (v.1-u.1,v.2-u.2, -((v.1-u.1)*v.1+(v.2-u.2)*v.2)) u= -z:=by simp only [lf];grind
     rw [e1];grind
    ·have e2:lf (v.1-u.1,v.2-u.2, -((v.1-u.1)*v.1+(v.2-u.2)*v.2)) v=0:=by simp only [lf];grind
     rw [e2];grind
   ·refine ⟨(u.1-v.1,u.2-v.2, -((u.1-v.1)*u.1+(u.2-v.2)*u.2)), ?_, ?_, ?_⟩
    ·rw [<-hb,qk8]
     have e1:lf (u.1-v.1,u.2-v.2, -((u.1-v.1)*u.1+(u.2-v.2)*u.2)) u=0:=by simp only [lf];grind
     have e2:lf (u.1-v.1,u.2-v.2, -((u.1-v.1)*u.1+(u.2-v.2)*u.2)) v= -z:=by simp only [lf];grind
     rw [e1,e2]
     have:=Rat.mul_pos hs (show 0< -k by grind)
     grind
    ·have e1:lf (u.1-v.1,u.2-v.2, -((u.1-v.1)*u.1+(u.2-v.2)*u.2)) u=0:=by simp only [lf];grind
     rw [e1];grind
    ·have e2:lf (u.1-v.1,u.2-v.2, -((u.1-v.1)*u.1+(u.2-v.2)*u.2)) v= -z:=by simp only [lf];grind
     rw [e2];grind
 ·exact ⟨_,by rw [eo];exact c,by rw [eo,o1];grind,by rw [eo,o2];grind⟩
theorem qCv{u v b:P2}(a c:P2)(h: ∀t:Rat,0<=t->t<=1->lin u v t≠b): ∃d:Rat,0<d/\ ∀e,0<e->e<d->Disj (lin b a e) (lin b c e) u v:=by
 obtain ⟨g,g1,g2,g3⟩:=qBl h
 obtain ⟨d1,p1,q1⟩:=qpU (y:=lf g a) g1
 obtain ⟨d2,p2,q2⟩:=qpU (y:=lf g c) g1
 refine ⟨if d1<=d2 then d1 else d2,by split<;>assumption,fun e e0 e1 s t s0 s1 t0 t1 heq=> ?_⟩
 have f1:=q1 e e0 (by split at e1<;>grind)
 have f2:=q2 e e0 (by split at e1<;>grind)
 rw [<-qk8] at f1 f2
 have f3:0<lf g (lin (lin b a e) (lin b c e) s):=by
  rw [qk8]
  have a1:=Rat.mul_nonneg s0 (Rat.le_of_lt f2)
  have a2:=Rat.mul_nonneg (show 0<=1-s by grind) (Rat.le_of_lt f1)
  by_cases hs:s=0
  ·subst hs;grind
  ·have:=Rat.mul_pos (show 0<s by grind) f2;grind
 have f4:lf g (lin u v t)<=0:=by
  rw [qk8]
  have a1:=Rat.mul_nonneg t0 (show 0<= -lf g v by grind)
  have a2:=Rat.mul_nonneg (show 0<=1-t by grind) (show 0<= -lf g u by grind)
  grind
 rw [heq] at f3
 grind
theorem qFH{b:P2}(a c:P2): ∀(l:List (P2×P2)),(∀e∈l,∀t:Rat,0<=t->t<=1->lin e.1 e.2 t≠b)-> ∃d:Rat,0<d/\ ∀k,0<k->k<d-> ∀e∈l,Disj (lin b a k) (lin b c k) e.1 e.2
 | [],_=>⟨1,by grind,fun _ _ _ e he=>by simp at he⟩
 |e::l,h=>by
  obtain ⟨d1,p1,q1⟩:=qCv a c (h e (by simp))
  obtain ⟨d2,p2,q2⟩:=qFH a c l (fun e he=>h e (by simp [he]))
  refine ⟨if d1<=d2 then d1 else d2,by split<;>assumption,fun k k0 k1 e' he=> ?_⟩
  rcases List.mem_cons.1 he with rfl|he
  ·exact q1 k k0 (by split at k1<;>grind)
  ·exact q2 k k0 (by split at k1<;>grind) e' he
def lvJ(a b:P2)(t:List P2):Int:=nn a b t (lin a b (1/2))+upI a b
theorem qeI.turn{l:List P2}(h:qeI l){a b c:P2}{r:List P2}(hr:Rot l (a::b::c::r)):lvJ a b (c::r)=lvJ b c (r++ [a]):=by
 have hc:=h.cor _ _ _ _ hr
 have hz:=h.last hr
 have hd:=h.dis _ _ _ _ hr
 have off: ∀e∈prs c (r++ [a]),∀t:Rat,0<=t->t<=1->lin e.1 e.2 t≠b:=by
  intro e he t t0 t1 heq
  rw [qfc] at he
  rcases List.mem_append.1 he with he|he
  ·exact hd e he 1 t (by grind) (by grind) t0 t1 (by rw [qa6,heq])
  ·simp only [prs,List.mem_singleton] at he
   subst he
   apply hz
   rw [<-heq]
   simp only [orQ,lin];grind
 obtain ⟨d,d0,dd⟩:=qFH a c _ off
 obtain ⟨k,k0,k1,k2⟩: ∃k:Rat,0<k/\k<1/\k<d:=by
  by_cases hd1:d<=1
  ·exact ⟨d/2,by grind,by grind,by grind⟩
  ·exact ⟨1/2,by grind,by grind,by grind⟩
 have law:=qjC (p:=lin b a k) (q:=lin b c k) (r++ [a]) c (fun e he=>dd k k0 k2 e he)
 rw [qbm] at law
 simp only [qbh] at law
 have cn:=qu0 (a:=a) (v:=b) (b:=c) k0 k1 hc
 have hr2:Rot l (b::c::(r++ [a])):=by have:=hr.step;simpa using this
 have e1:nn a b (c::r) (lin a b (1/2))=nn a b (c::r) (lin b a k):=by
  rw [qcl a b k];exact h.along hr (by grind) (by grind)
 have e2:nn b c (r++ [a]) (lin b c (1/2))=nn b c (r++ [a]) (lin b c k):=by
  cases r with
  |nil=>exact h.along (c:=a) (r:= []) hr2 (by grind) (by grind)
  |cons x r=>exact h.along (c:=x) (r:=r++ [a]) hr2 (by grind) (by grind)
 have e3:nn a b (c::r) (lin b a k)=crI b c (lin b a k)+qgU (fun u v=>crI u v (lin b a k)) (prs c (r++ [a])):=by
  unfold nn;simp only [List.cons_append,prs,qgU]
 have e4:nn b c (r++ [a]) (lin b c k)=qgU (fun u v=>crI u v (lin b c k)) (prs c (r++ [a]))+crI a b (lin b c k):=by
  unfold nn
  rw [qfc,qeZ,qbm]
  simp only [qbh,prs,qgU];omega
 unfold lvJ
 omega
theorem Rot.ind{l:List P2}{P:List P2->Prop}(h0:P l)(hs: ∀a t,Rot l (a::t)->P (a::t)->P (t++ [a])): ∀{l'},Rot l l'->P l':=by
 have key: ∀(n:Nat) (x y:List P2),x.length=n->l=x++y->P (y++x):=by
  intro n
  induction n with
  |zero=>intro x y hx hl;have:x= [] :=List.eq_nil_of_length_eq_zero hx;subst this;have e:l=y:=hl;subst e;simpa using h0
  |succ n ih=>
   intro x y hx hl
   rcases List.eq_nil_or_concat x with rfl|⟨x',a,rfl⟩
   ·simp at hx
   ·rw [List.concat_eq_append] at hl hx ⊢
    have:=ih x' (a::y) (by simpa using hx) (by simpa using hl)
    have r:Rot l (a::(y++x')):=⟨x',a::y,by simpa using hl,by simp⟩
    have:=hs a (y++x') r (by simpa using this)
    simpa using this
 rintro l' ⟨x,y,h1,rfl⟩
 exact key _ x y rfl h1
theorem qjE(a:P2)(t:List P2): ∃e r,cyc (a::t)=e::r/\cyc (t++ [a])=r++ [e] :=by
 cases t with
 |nil=>exact ⟨(a,a), [],rfl,rfl⟩
 |cons b t=>
  refine ⟨(a,b),prs b (t++ [a]),rfl, ?_⟩
  show prs b ((t++ [a])++ [b])=_
  rw [qfc,qbm];rfl
def wn(l:List P2)(q:P2):Int:=qgU (fun u v=>crI u v q) (cyc l)
theorem qut{l l':List P2}(h:Rot l l')(q:P2):wn l' q=wn l q:=by
 refine Rot.ind (P:=fun l'=>wn l' q=wn l q) rfl (fun a t _ ih=> ?_) h
 obtain ⟨e,r,h1,h2⟩:=qjE a t
 unfold wn at ih ⊢
 rw [h1] at ih
 rw [h2,qeZ]
 simp only [qgU] at ih ⊢
 omega
theorem qee{l l':List P2}(h:Rot l l')(e:P2×P2):e∈cyc l'↔e∈cyc l:=by
 refine Rot.ind (P:=fun l'=>e∈cyc l'↔e∈cyc l) Iff.rfl (fun a t _ ih=> ?_) h
 obtain ⟨e',r,h1,h2⟩:=qjE a t
 rw [h1] at ih
 rw [h2, <-ih]
 simp [or_comm]
theorem qlp: ∀(m:List P2) (c:P2) (e:P2×P2),e∈prs c m-> ∃m1 m2,c::m=m1++e.1::e.2::m2
 | [],c,e,h=>by simp [prs] at h
 |b::m,c,e,h=>by
  simp only [prs] at h
  rcases List.mem_cons.1 h with rfl|h
  ·exact ⟨[],m,rfl⟩
  ·obtain ⟨m1,m2,h⟩:=qlp m b e h
   exact ⟨c::m1,m2,by rw [h];rfl⟩
theorem qmN{l:List P2}(hl:3<=l.length){e:P2×P2}(h:e∈cyc l): ∃c r,Rot l (e.1::e.2::c::r):=by
 have fin: ∀t,Rot l (e.1::e.2::t)-> ∃c r,Rot l (e.1::e.2::c::r):=fun t ht=>by
  cases t with
  |nil=>have:=ht.len;simp at this;omega
  |cons c r=>exact ⟨c,r,ht⟩
 cases l with
 |nil=>simp at hl
 |cons c0 l0=>
  obtain ⟨m1,m2,hm⟩:=qlp _ _ _ (show e∈prs c0 (l0++ [c0]) from h)
  rcases List.eq_nil_or_concat m2 with rfl|⟨m2',z,rfl⟩
  ·have e1:(c0::l0)++ [c0] =(m1++ [e.1])++ [e.2] :=by simpa using hm
   obtain ⟨h1,h2⟩:=List.append_inj' e1 (by simp)
   have h2:c0=e.2:=by simpa using h2
   have r1:Rot (c0::l0) (e.1::m1):=by rw [h1];exact (Rot.self _).back
   cases m1 with
   |nil=>rw [h1] at hl;simp at hl
   |cons d m1=>
    have:d=e.2:=by rw [<-h2];simp at h1;exact h1.1.symm
    subst this
    exact fin _ r1
  ·rw [List.concat_eq_append] at hm
   have e1:(c0::l0)++ [c0] =(m1++e.1::e.2::m2')++ [z] :=by simpa using hm
   obtain ⟨h1,_⟩:=List.append_inj' e1 (by simp)
   exact fin (m2'++m1) ⟨m1,e.1::e.2::m2',h1,by simp⟩
def lvl:List P2->Int
 |a::b::t=>lvJ a b t
 |_=>0
theorem qeI.level{l:List P2}(h:qeI l){l':List P2}(hr:Rot l l'):lvl l'=lvl l:=by
 refine Rot.ind (P:=fun l'=>lvl l'=lvl l) rfl (fun a t hr ih=> ?_) hr
 have hlen:=hr.len
 have:=h.len
 match t,hr,ih with
 |b::c::r,hr,ih=>
  have e:=h.turn hr
  have e1:lvl (a::b::c::r)=lvJ a b (c::r):=rfl
  have e2:lvl ((b::c::r)++ [a])=lvJ b c (r++ [a]):=rfl
  rw [e2, <-e, <-e1,ih]
 | [b],hr,ih=>simp at hlen;omega
 | [],hr,ih=>simp at hlen;omega
theorem qvv{A B M Y:Rat}{P U:Prop}[Decidable P][Decidable U](h1:A<B->A<M/\M<B)(h2:B<A->B<M/\M<A)(h3:A=B->M=A)
  (u1:A<B->U) (u2:B<A-> ¬U) (u3:A=B->Y≠A/\((P/\(U↔Y<A))\/(¬P/\(U↔A<Y)))):
  (if A<=Y/\Y<B/\P then (1:Int) else if B<=Y/\Y<A/\ ¬P then-1 else 0)+((if Y<A/\A<=M/\P then (1:Int) else if M<A/\A<=Y/\ ¬P then-1 else 0)-(if Y<B/\B<=M/\ ¬P then (1:Int) else if M<B/\B<=Y/\P then-1 else 0))
   =(if U then 1 else 0)-(if P then 0 else 1):=by
 rcases Std.lt_trichotomy A B with hC|hC|hC<;>by_cases hP:P<;>grind
theorem beside{a b q:P2}{s:Rat}(s0:0<s)(s1:s<1)(hk:orQ a b q≠0):
  crI a b q+(qj3 q (lin a b s) a-qj3 q (lin a b s) b)=upI a b-(if 0<orQ a b q then 0 else 1):=by
 have o1:orQ b a q= -orQ a b q:=by simp only [orQ];grind
 have o2:orQ q (lin a b s) a=s*(-orQ a b q):=by simp only [orQ,lin];grind
 have o3:orQ (lin a b s) q a=s*orQ a b q:=by simp only [orQ,lin];grind
 have o4:orQ q (lin a b s) b=(1-s)*orQ a b q:=by simp only [orQ,lin];grind
 have o5:orQ (lin a b s) q b=(1-s)*(-orQ a b q):=by simp only [orQ,lin];grind
 have t0:0<1-s:=by grind
 have ek:orQ a b q=(b.1-a.1)*(q.2-a.2)-(b.2-a.2)*(q.1-a.1):=rfl
 generalize hk':orQ a b q=k at*
 have g1:0< -k↔ ¬0<k:=by constructor<;>intro _<;>grind
 have g2:s*(-k)<0↔0<k:=by rw [qaS s0];constructor<;>intro _<;>grind
 have g3:s*k<0↔ ¬0<k:=by rw [qaS s0];constructor<;>intro _<;>grind
 have g4:(1-s)*k<0↔ ¬0<k:=by rw [qaS t0];constructor<;>intro _<;>grind
 have g5:(1-s)*(-k)<0↔0<k:=by rw [qaS t0];constructor<;>intro _<;>grind
 have lm:(lin a b s).2=a.2+(b.2-a.2)*s:=rfl
 have main:=qvv (A:=a.2) (B:=b.2) (M:=(lin a b s).2) (Y:=q.2) (P:=0<k) (U:=a.2<b.2\/(a.2=b.2/\b.1<a.1))
  (fun h=>by
   have:=Rat.mul_pos (show 0<b.2-a.2 by grind) s0
   have:=Rat.mul_pos (show 0<b.2-a.2 by grind) t0
   rw [lm];constructor<;>grind)
  (fun h=>by
   have:=Rat.mul_pos (show 0<a.2-b.2 by grind) s0
   have:=Rat.mul_pos (show 0<a.2-b.2 by grind) t0
   rw [lm];constructor<;>grind)
  (fun h=>by rw [lm,h];grind)
  (fun h=> .inl h) (fun h=>by grind)
  (fun h=>by
   have e:k=(b.1-a.1)*(q.2-a.2):=by rw [ek,h];grind
   have hy:q.2≠a.2:=fun hh=>hk (by rw [e,hh];grind)
   refine ⟨hy, ?_⟩
   rcases Std.lt_trichotomy (b.1-a.1) 0 with c|c|c
   ·have m:=qaz (x:= -(b.1-a.1)) (y:= -(q.2-a.2)) (by grind)
    rw [show-(b.1-a.1)* -(q.2-a.2)=k by rw [e];grind] at m
    by_cases hp:0<k
    ·exact .inl ⟨hp,by constructor<;>intro _<;>grind⟩
    ·exact .inr ⟨hp,by constructor<;>intro _<;>grind⟩
   ·exact absurd (by rw [e,c];grind) hk
   ·have m:=qaz (x:=b.1-a.1) (y:=q.2-a.2) c
    rw [<-e] at m
    by_cases hp:0<k
    ·exact .inl ⟨hp,by constructor<;>intro _<;>grind⟩
    ·exact .inr ⟨hp,by constructor<;>intro _<;>grind⟩)
 have tr: ∀{x y z z':Prop},(z↔z')->(x/\y/\z↔x/\y/\z'):=fun c=>by rw [c]
 unfold qj3 crI upI
 rw [o1,o2,o3,o4,o5,hk', <-main]
 congr 1
 ·exact qxJ Iff.rfl (tr g1)
 ·congr 1
  ·exact qxJ (tr g2) (tr g3)
  ·exact qxJ (tr g4) (tr g5)
theorem qeI.seen{l:List P2}(h:qeI l){a b c:P2}{r:List P2}(hr:Rot l (a::b::c::r)){s:Rat}(hs:0<s/\s<1){q:P2}(hq:orQ a b q≠0)
  (hd: ∀e∈prs b (c::r++ [a]),Disj q (lin a b s) e.1 e.2):wn l q=lvl l\/wn l q=lvl l-1:=by
 have e1:=qut hr q
 have e2:=h.level hr
 have law:=qjC (p:=q) (q:=lin a b s) (c::r++ [a]) b hd
 rw [qbm] at law
 simp only [qbh] at law
 have al:=h.along hr hs (t:=1/2) (by constructor<;>grind)
 have bs:=beside hs.1 hs.2 hq
 have e3:wn (a::b::c::r) q=crI a b q+nn a b (c::r) q:=by
  unfold wn nn;simp only [cyc,List.cons_append,prs,qgU]
 have e4:lvl (a::b::c::r)=nn a b (c::r) (lin a b (1/2))+upI a b:=rfl
 unfold nn at e3 e4 al
 by_cases hp:0<orQ a b q
 ·rw [if_pos hp] at bs
  left;omega
 ·rw [if_neg hp] at bs
  right;omega
theorem qBh: ∀(L:List (Rat×Rat)) (lo hi:Rat),lo<hi->(∀f∈L,¬(f.1=0/\f.2=0))-> ∃lo' hi',lo<=lo'/\lo'<hi'/\hi'<=hi/\ ∀s,lo'<s->s<hi'-> ∀f∈L,f.1+(f.2-f.1)*s≠0
 | [],lo,hi,h,_=>⟨lo,hi,Rat.le_refl,h,Rat.le_refl,fun _ _ _ f hf=>by simp at hf⟩
 |f::L,lo,hi,h,hz=>by
  obtain ⟨lo1,hi1,h1,h2,h3,h4⟩:=qBh L lo hi h (fun f hf=>hz f (by simp [hf]))
  have hf:=hz f (by simp)
  by_cases hr: ∃s,lo1<s/\s<(lo1+hi1)/2/\f.1+(f.2-f.1)*s=0
  ·obtain ⟨s,r1,r2,r3⟩:=hr
   refine ⟨(lo1+hi1)/2,hi1,by grind,by grind,h3,fun s' a1 a2 g hg=> ?_⟩
   rcases List.mem_cons.1 hg with rfl|hg
   ·intro e
    have hp:(g.2-g.1)*(s'-s)=0:=by grind
    rcases Rat.mul_eq_zero.1 hp with e1|e1
    ·apply hf;constructor<;>grind
    ·grind
   ·exact h4 s' (by grind) a2 g hg
  ·refine ⟨lo1,(lo1+hi1)/2,h1,by grind,by grind,fun s' a1 a2 g hg=> ?_⟩
   rcases List.mem_cons.1 hg with rfl|hg
   ·exact fun e=>hr ⟨s',a1,a2,e⟩
   ·exact h4 s' a1 (by grind) g hg
theorem qnB{a b u v:P2}(h: ¬Disj a b u v): ∃s t,0<=s/\s<=1/\0<=t/\t<=1/\lin a b s=lin u v t:=by
 unfold Disj at h
 simp only [Classical.not_forall,ne_eq,Classical.not_not] at h
 obtain ⟨s,t,h1,h2,h3,h4,h5⟩:=h
 exact ⟨s,t,h1,h2,h3,h4,h5⟩
theorem ql5(q m u v:P2)(t:Rat):orQ q m (lin u v t)=orQ q m u+(orQ q m v-orQ q m u)*t:=by simp only [orQ,lin];grind
theorem qfy(q m:P2)(k:Rat):orQ q m (lin q m k)=0:=by simp only [orQ,lin];grind
theorem qko{q m:P2}(hqm:q≠m): ∀(E:List (P2×P2)),(∀e∈E,orQ q m e.1≠0/\orQ q m e.2≠0)->(∀e∈E,∀t:Rat,0<=t->t<=1->lin e.1 e.2 t≠q)->
  (∀e∈E,Disj q m e.1 e.2)\/ ∃e∈E,∃k t:Rat,0<k/\k<=1/\0<t/\t<1/\lin q m k=lin e.1 e.2 t/\ ∀e'∈E,∀k' t':Rat,0<=k'->k'<k->0<=t'->t'<=1->lin q m k'≠lin e'.1 e'.2 t'
 | [],_,_=> .inl fun e he=>by simp at he
 |e::E,h1,h2=>by
  have ih:=qko hqm E (fun e he=>h1 e (by simp [he])) (fun e he=>h2 e (by simp [he]))
  obtain ⟨o1,o2⟩:=h1 e (by simp)
  have hoff:=h2 e (by simp)
  by_cases hd:Disj q m e.1 e.2
  ·rcases ih with ih|⟨e2,he2,k,t,k0,k1,t0,t1,heq,hmin⟩
   ·left
    intro e' he'
    rcases List.mem_cons.1 he' with rfl|he'
    ·exact hd
    ·exact ih e' he'
   ·right
    refine ⟨e2,by simp [he2],k,t,k0,k1,t0,t1,heq,fun e' he' k' t' a1 a2 a3 a4=> ?_⟩
    rcases List.mem_cons.1 he' with rfl|he'
    ·exact hd k' t' a1 (by grind) a3 a4
    ·exact hmin e' he' k' t' a1 a2 a3 a4
  ·obtain ⟨k,t,k0,k1,t0,t1,heq⟩:=qnB hd
   have hk:k≠0:=fun hk=>hoff t t0 t1 (by rw [<-heq,hk,qaw])
   have ht0:t≠0:=fun ht=>o1 (by
    have:=qfy q m k
    rw [heq,ht,qaw] at this;exact this)
   have ht1:t≠1:=fun ht=>o2 (by
    have:=qfy q m k
    rw [heq,ht,qa6] at this;exact this)
   have uniq: ∀k' t':Rat,lin q m k'=lin e.1 e.2 t'->k'=k:=by
    intro k' t' e'
    have f1:=qfy q m k
    have f2:=qfy q m k'
    rw [heq,ql5] at f1
    rw [e',ql5] at f2
    have ht:t'=t:=by
     have hp:(orQ q m e.2-orQ q m e.1)*(t'-t)=0:=by grind
     rcases Rat.mul_eq_zero.1 hp with h|h
     ·exact absurd (by grind) o1
     ·grind
    subst ht
    rw [<-heq] at e'
    simp only [lin,Prod.mk.injEq] at e'
    have g1:(m.1-q.1)*(k'-k)=0:=by grind
    have g2:(m.2-q.2)*(k'-k)=0:=by grind
    rcases Rat.mul_eq_zero.1 g1 with h|h
    ·rcases Rat.mul_eq_zero.1 g2 with h'|h'
     ·exact absurd (Prod.ext (by grind) (by grind)) hqm
     ·grind
    ·grind
   right
   rcases ih with ih|⟨e2,he2,k2,t2,k20,k21,t20,t21,heq2,hmin⟩
   ·refine ⟨e,by simp,k,t,by grind,k1,by grind,by grind,heq,fun e' he' k' t' a1 a2 a3 a4 e''=> ?_⟩
    rcases List.mem_cons.1 he' with rfl|he'
    ·have:=uniq k' t' e'';grind
    ·exact ih e' he' k' t' a1 (by grind) a3 a4 e''
   ·by_cases hlt:k2<k
    ·refine ⟨e2,by simp [he2],k2,t2,k20,k21,t20,t21,heq2,fun e' he' k' t' a1 a2 a3 a4 e''=> ?_⟩
     rcases List.mem_cons.1 he' with rfl|he'
     ·have:=uniq k' t' e'';grind
     ·exact hmin e' he' k' t' a1 a2 a3 a4 e''
    ·refine ⟨e,by simp,k,t,by grind,k1,by grind,by grind,heq,fun e' he' k' t' a1 a2 a3 a4 e''=> ?_⟩
     rcases List.mem_cons.1 he' with rfl|he'
     ·have:=uniq k' t' e'';grind
     ·exact hmin e' he' k' t' a1 (by grind) a3 a4 e''
def qmi(l:List P2)(q:P2):Prop:= ∀e∈cyc l,∀t:Rat,0<=t->t<=1->lin e.1 e.2 t≠q
theorem qoc{l:List P2}{a b:P2}{t:List P2}(h:Rot l (a::b::t)):cyc (a::b::t)=(a,b)::prs b (t++ [a]):=rfl
theorem qfW{l:List P2}{p:P2}(h:p∈l): ∃e∈cyc l,e.1=p:=by
 cases l with
 |nil=>simp at h
 |cons c l=>
  have key: ∀(m:List P2) (c z:P2),p∈c::m-> ∃e∈prs c (m++ [z]),e.1=p:=by
   intro m
   induction m with
   |nil=>intro c z hp;simp at hp;subst hp;exact ⟨(p,z),by simp [prs],rfl⟩
   |cons d m ih=>
    intro c z hp
    rcases List.mem_cons.1 hp with rfl|hp
    ·exact ⟨(p,d),by simp [prs],rfl⟩
    ·obtain ⟨e,he,e1⟩:=ih d z hp
     exact ⟨e,by simp only [List.cons_append,prs];exact List.mem_cons_of_mem _ he,e1⟩
  exact key l c c h
theorem qa0{l:List P2}{e:P2×P2}(h:e∈cyc l):e.1∈l/\e.2∈l:=by
 cases l with
 |nil=>simp [cyc] at h
 |cons c l=>
  obtain ⟨m1,m2,hm⟩:=qlp _ _ _ (show e∈prs c (l++ [c]) from h)
  have: ∀p,p∈c::(l++ [c])->p∈c::l:=fun p hp=>by simp at hp ⊢;rcases hp with h|h|h<;>simp [h]
  constructor
  ·exact this _ (by rw [hm];simp)
  ·exact this _ (by rw [hm];simp)
theorem qeI.sides{l:List P2}(h:qeI l){q:P2}(hq:qmi l q):wn l q=lvl l\/wn l q=lvl l-1:=by
 have hl:=h.len
 --an edge on whose line the point does not lie
 obtain ⟨a,b,c,r,hr,hab⟩: ∃a b c r,Rot l (a::b::c::r)/\orQ a b q≠0:=by
  match l,hl,h,hq with
  |a::b::c::r,hl,h,hq=>
   by_cases h1:orQ a b q=0
   ·have hr:=Rot.self (a::b::c::r)
    have hr2:Rot (a::b::c::r) (b::c::(r++ [a])):=by have:=hr.step;simpa using this
    have hc:=h.cor _ _ _ _ hr
    have h2:orQ b c q≠0:=by
     intro h2
     have:b=q:=by
      simp only [orQ] at h1 h2 hc
      have f1:((b.1-a.1)*(c.2-a.2)-(b.2-a.2)*(c.1-a.1))*(q.1-b.1)=0:=by grind
      have f2:((b.1-a.1)*(c.2-a.2)-(b.2-a.2)*(c.1-a.1))*(q.2-b.2)=0:=by grind
      refine Prod.ext ?_ ?_
      ·rcases Rat.mul_eq_zero.1 f1 with e|e
       ·exact absurd e hc
       ·grind
      ·rcases Rat.mul_eq_zero.1 f2 with e|e
       ·exact absurd e hc
       ·grind
     exact hq (a,b) (by simp [cyc,prs]) 1 (by grind) (by grind) (by rw [qa6];exact this)
    cases r with
    |nil=>exact ⟨b,c,a, [],hr2,h2⟩
    |cons d r=>exact ⟨b,c,d,r++ [a],hr2,h2⟩
   ·exact ⟨a,b,c,r,Rot.self _,h1⟩
 have hq':qmi (a::b::c::r) q:=fun e he=>hq e ((qee hr e).1 he)
 --a point of it that no line through q and a qu0 meets
 obtain ⟨lo,hi,l1,l2,l3,l4⟩:=qBh ((a::b::c::r).map fun p=>(orQ q a p,orQ q b p)) 0 1 (by grind) (fun f hf=>by
  obtain ⟨p,hp,rfl⟩:=List.mem_map.1 hf
  rintro ⟨e1,e2⟩
  have hpq:p≠q:=fun e=>by
   obtain ⟨e',he',hh⟩:=qfW hp
   exact hq' e' he' 0 (by grind) (by grind) (by rw [qaw,hh,e])
  simp only [orQ] at e1 e2 hab
  have f1:((b.1-a.1)*(q.2-a.2)-(b.2-a.2)*(q.1-a.1))*(p.1-q.1)=0:=by grind
  have f2:((b.1-a.1)*(q.2-a.2)-(b.2-a.2)*(q.1-a.1))*(p.2-q.2)=0:=by grind
  apply hpq
  refine Prod.ext ?_ ?_
  ·rcases Rat.mul_eq_zero.1 f1 with e|e
   ·exact absurd e hab
   ·grind
  ·rcases Rat.mul_eq_zero.1 f2 with e|e
   ·exact absurd e hab
   ·grind)
 obtain ⟨s,hs⟩: ∃s,s=(lo+hi)/2:=⟨_,rfl⟩
 have hs1:0<s/\s<1:=by constructor<;>grind
 have hgen: ∀p∈a::b::c::r,orQ q (lin a b s) p≠0:=fun p hp=>by
  have:=l4 s (by grind) (by grind) (orQ q a p,orQ q b p) (List.mem_map.2 ⟨p,hp,rfl⟩)
  intro e
  apply this
  rw [<-e]
  simp only [orQ,lin];grind
 have hqm:q≠lin a b s:=fun e=>hq' (a,b) (by simp [cyc,prs]) s (by grind) (by grind) e.symm
 have fh:=qko hqm (cyc (a::b::c::r)) (fun e he=>by
  have:=qa0 he
  exact ⟨hgen _ this.1,hgen _ this.2⟩) hq'
 rcases fh with fh|⟨e,he,k,t,k0,k1,t0,t1,heq,hmin⟩
 ·exact absurd (by rw [qa6]) (fh (a,b) (by simp [cyc,prs]) 1 s (by grind) (by grind) (by grind) (by grind))
 ·have he':=(qee hr e).1 he
  obtain ⟨c',r',hr'⟩:=qmN hl he'
  have hlen':=h.cor _ _ _ _ hr'
  have hz:=h.last hr'
  have hdis:=h.dis _ _ _ _ hr'
  refine h.seen hr' (s:=t) ⟨t0,t1⟩ ?_ ?_
  ·--the point does not lie on the edge's line
   intro e0
   have g1:=hgen e.1 (qa0 he).1
   have g2:=hgen e.2 (qa0 he).2
   --lin q m k is on the edge,so is q:then the whole line
   have f0:lin q (lin a b s) k=lin e.1 e.2 t:=heq
   generalize lin a b s=m at*
   simp only [lin,Prod.mk.injEq] at f0
   simp only [orQ] at e0 g1
   apply g1
   have hk:k*((m.1-q.1)*(e.1.2-q.2)-(m.2-q.2)*(e.1.1-q.1))=0:=by grind
   rcases Rat.mul_eq_zero.1 hk with h'|h'
   ·grind
   ·exact h'
  ·intro e2 h2
   have h2c:e2∈cyc (a::b::c::r):=by
    rw [qee hr, <-qee hr',qoc hr']
    exact List.mem_cons_of_mem _ h2
   intro u v u0 u1 v0 v1 e3
   rw [<-heq] at e3
   have e4:lin q (lin q (lin a b s) k) u=lin q (lin a b s) (k*u):=by
    have:=qf2 q (lin a b s) 0 k u
    rw [qaw] at this
    rw [this];congr 1;grind
   rw [e4] at e3
   by_cases hu:u=1
   ·subst hu
    have e5:lin q (lin a b s) (k*1)=lin e.1 e.2 t:=by rw [<-heq];congr 1;grind
    rw [e5] at e3
    --the point of the edge lies on another edge
    have d1:Disj (lin e.1 e.2 t) (lin e.1 e.2 t) e2.1 e2.2:=by
     simp only [List.cons_append,prs] at h2
     rw [qfc] at h2
     rcases List.mem_cons.1 h2 with rfl|h2
     ·exact qfo hlen' ⟨t0,t1⟩ ⟨t0,t1⟩
     ·rcases List.mem_append.1 h2 with h2|h2
      ·exact (hdis _ h2).sub ⟨t0,t1⟩ ⟨t0,t1⟩
      ·simp only [prs,List.mem_singleton] at h2
       subst h2
       exact qhO hz ⟨t0,t1⟩ ⟨t0,t1⟩
    exact d1 0 v (by grind) (by grind) v0 v1 (by rw [qaw];exact e3)
   ·have hku:k*u<k:=by
     have:=Rat.mul_lt_mul_of_pos_left (show u<1 by grind) k0;grind
    exact hmin e2 h2c (k*u) v (Rat.mul_nonneg (by grind) u0) hku v0 v1 e3
theorem qkH: ∀l:List P2,∃X:Rat,∀p∈l,p.1<X
 | [] =>⟨0,fun p hp=>by simp at hp⟩
 |p::l=>by
  obtain ⟨X,h⟩:=qkH l
  refine ⟨if X<=p.1 then p.1+1 else X,fun p' hp'=> ?_⟩
  rcases List.mem_cons.1 hp' with rfl|hp'
  ·split<;>grind
  ·have:=h p' hp';split<;>grind
theorem qpt{u v q:P2}(h1:u.1<q.1)(h2:v.1<q.1):crI u v q=0:=by
 have key: ∀u v:P2,u.1<q.1->v.1<q.1-> ¬(u.2<=q.2/\q.2<v.2/\0<orQ u v q):=by
  rintro u v h1 h2 ⟨a,b,c⟩
  simp only [orQ] at c
  have m1:=Rat.mul_nonneg (show 0<=q.2-u.2 by grind) (show 0<=q.1-v.1 by grind)
  have m2:=Rat.mul_pos (show 0<v.2-q.2 by grind) (show 0<q.1-u.1 by grind)
  grind
 unfold crI
 rw [if_neg (key u v h1 h2),if_neg (key v u h2 h1)]
theorem qk7{f:P2->P2->Int}: ∀l:List (P2×P2),(∀e∈l,f e.1 e.2=0)->qgU f l=0
 | [],_=>rfl
 |e::l,h=>by simp only [qgU];rw [h e (by simp),qk7 l (fun e he=>h e (by simp [he]))];rfl
theorem qeI.lvl01{l:List P2}(h:qeI l):lvl l=1\/lvl l=0:=by
 obtain ⟨X,hX⟩:=qkH l
 have hw:wn l (X,0)=0:=qk7 _ fun e he=>qpt (hX _ (qa0 he).1) (hX _ (qa0 he).2)
 have hoff:qmi l (X,0):=fun e he t t0 t1 heq=>by
  have a1:=hX _ (qa0 he).1
  have a2:=hX _ (qa0 he).2
  have e1:(lin e.1 e.2 t).1=X:=by rw [heq]
  simp only [lin] at e1
  have m1:=Rat.mul_nonneg t0 (show 0<=X-e.2.1 by grind)
  have m2:=Rat.mul_nonneg (show 0<=1-t by grind) (show 0<=X-e.1.1 by grind)
  by_cases ht:t=0
  ·subst ht;grind
  ·have:=Rat.mul_pos (show 0<t by grind) (show 0<X-e.2.1 by grind);grind
 rcases h.sides hoff with e|e
 ·right;omega
 ·left;omega
def Wt:List (Rat×Rat)->Rat->Rat
 | [],_=>0
 |e::l,x=>(if x<e.1 then e.2 else 0)+Wt l x
def Ct(c:Rat->Rat):List (Rat×Rat)->Rat
 | [] =>0
 |e::l=>e.2*c e.1+Ct c l
def Tt:List (Rat×Rat)->Rat
 | [] =>0
 |e::l=>e.2+Tt l
theorem qrG{L M:List (Rat×Rat)}(h:L.Perm M)(x:Rat):Wt L x=Wt M x:=by
 induction h with
 |nil=>rfl
 |cons a _ ih=>simp only [Wt,ih]
 |swap a b l=>simp only [Wt];grind
 |trans _ _ h1 h2=>rw [h1,h2]
theorem qqK{c:Rat->Rat}{L M:List (Rat×Rat)}(h:L.Perm M):Ct c L=Ct c M:=by
 induction h with
 |nil=>rfl
 |cons a _ ih=>simp only [Ct,ih]
 |swap a b l=>simp only [Ct];grind
 |trans _ _ h1 h2=>rw [h1,h2]
theorem qrs{L M:List (Rat×Rat)}(h:L.Perm M):Tt L=Tt M:=by
 induction h with
 |nil=>rfl
 |cons a _ ih=>simp only [Tt,ih]
 |swap a b l=>simp only [Tt];grind
 |trans _ _ h1 h2=>rw [h1,h2]
theorem qgQ{x:Rat}: ∀L:List (Rat×Rat),(∀e∈L,e.1<=x)->Wt L x=0
 | [],_=>rfl
 |e::l,h=>by
  simp only [Wt]
  have:=h e (by simp)
  rw [if_neg (by grind),qgQ l (fun e he=>h e (by simp [he]))];grind
theorem qlt{x:Rat}: ∀L:List (Rat×Rat),(∀e∈L,x<e.1)->Wt L x=Tt L
 | [],_=>rfl
 |e::l,h=>by
  simp only [Wt,Tt]
  rw [if_pos (h e (by simp)),qlt l (fun e he=>h e (by simp [he]))]
theorem qjt: ∀(L:List (Rat×Rat)),L≠ [] -> ∃e L',L.Perm (e::L')/\ ∀f∈L',f.1<=e.1
 | [],h=>absurd rfl h
 | [a],_=>⟨a, [],List.Perm.refl _,by simp⟩
 |a::b::l,_=>by
  obtain ⟨e,L',hp,hm⟩:=qjt (b::l) (by simp)
  by_cases h:e.1<=a.1
  ·refine ⟨a,e::L',hp.cons a,fun f hf=> ?_⟩
   rcases List.mem_cons.1 hf with rfl|hf
   ·exact h
   ·have:=hm f hf;grind
  ·refine ⟨e,a::L',(hp.cons a).trans (List.Perm.swap e a L'),fun f hf=> ?_⟩
   rcases List.mem_cons.1 hf with rfl|hf
   ·grind
   ·exact hm f hf
theorem gap: ∀(L:List Rat) {a b:Rat},a<b-> ∃x,a<x/\x<b/\ ∀e∈L,e≠x
 | [],a,b,h=>⟨(a+b)/2,by grind,by grind,by simp⟩
 |e::L,a,b,h=>by
  by_cases he:a<e/\e<b
  ·obtain ⟨x,h1,h2,h3⟩:=gap L he.1
   refine ⟨x,h1,by grind,fun f hf=> ?_⟩
   rcases List.mem_cons.1 hf with rfl|hf
   ·grind
   ·exact h3 f hf
  ·obtain ⟨x,h1,h2,h3⟩:=gap L h
   refine ⟨x,h1,h2,fun f hf=> ?_⟩
   rcases List.mem_cons.1 hf with rfl|hf
   ·grind
   ·exact h3 f hf
theorem qzf: ∀(n:Nat) (L:List (Rat×Rat)) (m:Rat),L.length=n->(∀x,(∀e∈L,e.1≠x)->0<=Wt L x)->(∀e∈L,m<=e.1)->0<=Ct (fun x=>x) L-Tt L*m
 |0,L,m,hn,_,_=>by
  cases L with
  |nil=>simp only [Ct,Tt];grind
  |cons=>simp at hn
 |n+1,L,m,hn,hw,hm=>by
  obtain ⟨e,L',hp,hmax⟩:=qjt L (by rintro rfl;simp at hn)
  rw [qqK hp,qrs hp]
  have hlen:L'.length=n:=by have:=hp.length_eq;simp at this;omega
  have hw': ∀x,(∀f∈e::L',f.1≠x)->0<=Wt (e::L') x:=fun x hx=>by
   rw [<-qrG hp];exact hw x fun f hf=>hx f (hp.mem_iff.1 hf)
  have hm': ∀f∈e::L',m<=f.1:=fun f hf=>hm f (hp.mem_iff.2 hf)
  by_cases h0:L'= []
  ·subst h0
   have h1:=hm' e (by simp)
   have h2:0<=e.2:=by
    obtain ⟨x,a1,a2,_⟩:=gap [] (show e.1-1<e.1 by grind)
    have:=hw' x (fun f hf=>by simp at hf;subst hf;grind)
    simp only [Wt,if_pos a2] at this;grind
   simp only [Ct,Tt]
   have:=Rat.mul_nonneg h2 (show 0<=e.1-m by grind)
   grind
  ·obtain ⟨f,M,hq,hmax2⟩:=qjt L' h0
   have hfe:f.1<=e.1:=hmax f (hq.mem_iff.2 (by simp))
   have hq':(e::L').Perm (e::f::M):=hq.cons e
   rw [qqK hq',qrs hq']
   have hM:M.length+1=n:=by have:=hq.length_eq;simp at this;omega
   have hw2: ∀x,(∀g∈e::f::M,g.1≠x)->0<=Wt (e::f::M) x:=fun x hx=>by
    rw [<-qrG hq'];exact hw' x fun g hg=>hx g (hq'.mem_iff.1 hg)
   have ih:=qzf n ((f.1,e.2+f.2)::M) m (by simp;omega) (fun x hx=>by
    by_cases hxf:x<f.1
    ·have:=hw2 x (fun g hg=>by
      rcases List.mem_cons.1 hg with rfl|hg
      ·grind
      ·rcases List.mem_cons.1 hg with rfl|hg
       ·grind
       ·exact hx g (by simp [hg]))
     simp only [Wt,if_pos hxf,if_pos (show x<e.1 by grind)] at this ⊢
     grind
    ·rw [qgQ _ (fun g hg=>by
      rcases List.mem_cons.1 hg with rfl|hg
      ·show f.1<=x;grind
      ·have:=hmax2 g hg;grind)]
     exact Rat.le_refl) (fun g hg=>by
      rcases List.mem_cons.1 hg with rfl|hg
      ·exact hm' f (List.mem_cons_of_mem _ (hq.mem_iff.2 (by simp)))
      ·exact hm' g (List.mem_cons_of_mem _ (hq.mem_iff.2 (by simp [hg]))))
   simp only [Ct,Tt] at ih ⊢
   by_cases hlt:f.1<e.1
   ·have he:0<=e.2:=by
     obtain ⟨x,a1,a2,_⟩:=gap [] hlt
     have:=hw2 x (fun g hg=>by
      rcases List.mem_cons.1 hg with rfl|hg
      ·grind
      ·rcases List.mem_cons.1 hg with rfl|hg
       ·grind
       ·have:=hmax2 g hg;grind)
     have z:=qgQ (x:=x) (f::M) (fun g hg=>by
      rcases List.mem_cons.1 hg with rfl|hg
      ·grind
      ·have:=hmax2 g hg;grind)
     rw [show Wt (e::f::M) x=(if x<e.1 then e.2 else 0)+Wt (f::M) x from rfl,z,if_pos a2] at this
     grind
    have:=Rat.mul_nonneg he (show 0<=e.1-f.1 by grind)
    grind
   ·have:f.1=e.1:=by grind
    rw [this] at ih;grind
def clp(a b x:Rat):Rat:=if x<=a then a else if b<=x then b else x
theorem qAy{a b:Rat}(h:a<=b)(x:Rat):a<=clp a b x/\clp a b x<=b:=by
 unfold clp
 by_cases h1:x<=a
 ·rw [if_pos h1];exact ⟨Rat.le_refl,h⟩
 ·by_cases h2:b<=x
  ·rw [if_neg h1,if_pos h2];exact ⟨h,Rat.le_refl⟩
  ·rw [if_neg h1,if_neg h2];constructor<;>grind
theorem qAF{a b x y:Rat}(h1:a<x)(h2:x<b):(x<clp a b y)↔x<y:=by
 unfold clp
 by_cases h3:y<=a
 ·rw [if_pos h3];constructor<;>grind
 ·by_cases h4:b<=y
  ·rw [if_neg h3,if_pos h4];constructor<;>grind
  ·rw [if_neg h3,if_neg h4]
theorem qln{a b x:Rat}(h1:a<x)(h2:x<b):clp a b x=x:=by
 unfold clp
 rw [if_neg (by grind),if_neg (by grind)]
theorem qB9(a b:Rat):clp a b a=a:=by unfold clp;rw [if_pos Rat.le_refl]
theorem qCn{a b:Rat}(h:a<=b):clp a b b=b:=by
 unfold clp
 by_cases h1:b<=a
 ·rw [if_pos h1];grind
 ·rw [if_neg h1,if_pos Rat.le_refl]
def clL(a b:Rat)(L:List (Rat×Rat)):List (Rat×Rat):=L.map fun e=>(clp a b e.1,e.2)
theorem qAK(a b:Rat): ∀L,Ct (fun x=>x) (clL a b L)=Ct (clp a b) L
 | [] =>rfl
 |e::l=>by simp only [clL,List.map_cons,Ct];rw [show List.map _ l=clL a b l from rfl,qAK a b l]
theorem qtu(a b:Rat): ∀L,Tt (clL a b L)=Tt L
 | [] =>rfl
 |e::l=>by simp only [clL,List.map_cons,Tt];rw [show List.map _ l=clL a b l from rfl,qtu a b l]
theorem qAT{a b x:Rat}(h1:a<x)(h2:x<b): ∀L,Wt (clL a b L) x=Wt L x
 | [] =>rfl
 |e::l=>by
  simp only [clL,List.map_cons,Wt];rw [show List.map _ l=clL a b l from rfl,qAT h1 h2 l]
  simp only [qAF h1 h2]
theorem qFy{a b:Rat}(hab:a<=b){L:List (Rat×Rat)}(ht:Tt L=0)(hw: ∀x,a<x->x<b->(∀e∈L,e.1≠x)->0<=Wt L x):0<=Ct (clp a b) L:=by
 have hmem: ∀f∈clL a b L,a<=f.1/\f.1<=b:=fun f hf=>by
  simp only [clL,List.mem_map] at hf
  obtain ⟨e,_,rfl⟩:=hf
  exact qAy hab _
 have key:=qzf _ (clL a b L) a rfl (fun x hx=>by
  by_cases h1:x<a
  ·rw [qlt _ (fun f hf=>by have:=hmem f hf;grind),qtu,ht];exact Rat.le_refl
  ·by_cases h2:b<=x
   ·rw [qgQ _ (fun f hf=>by have:=hmem f hf;grind)];exact Rat.le_refl
   ·by_cases h3:x=a
    ·subst h3
     rw [qlt _ (fun f hf=>by have:=hmem f hf;have:=hx f hf;grind),qtu,ht];exact Rat.le_refl
    ·rw [qAT (by grind) (by grind)]
     refine hw x (by grind) (by grind) (fun e he h=> ?_)
     refine hx (clp a b e.1,e.2) (List.mem_map.2 ⟨e,he,rfl⟩) ?_
     show clp a b e.1=x
     rw [h];exact qln (by grind) (by grind)) (fun f hf=>(hmem f hf).1)
 rw [qAK,qtu,ht] at key
 grind
def ngL(L:List (Rat×Rat)):List (Rat×Rat):=L.map fun e=>(e.1, -e.2)
theorem qzY(c:Rat->Rat): ∀L,Ct c (ngL L)= -Ct c L
 | [] =>by simp only [ngL,List.map_nil,Ct];grind
 |e::l=>by simp only [ngL,List.map_cons,Ct];rw [show List.map _ l=ngL l from rfl,qzY c l];grind
theorem qAL: ∀L,Tt (ngL L)= -Tt L
 | [] =>by simp only [ngL,List.map_nil,Tt];grind
 |e::l=>by simp only [ngL,List.map_cons,Tt];rw [show List.map _ l=ngL l from rfl,qAL l];grind
theorem qAr(x:Rat): ∀L,Wt (ngL L) x= -Wt L x
 | [] =>by simp only [ngL,List.map_nil,Wt];grind
 |e::l=>by simp only [ngL,List.map_cons,Wt];rw [show List.map _ l=ngL l from rfl,qAr x l];split<;>grind
theorem qqV{a b k:Rat}(hab:a<=b){L:List (Rat×Rat)}(ht:Tt L=0)(hw: ∀x,a<x->x<b->(∀e∈L,e.1≠x)->k<=Wt L x):k*(b-a)<=Ct (clp a b) L:=by
 have:=qFy hab (L:=(a,k)::(b, -k)::L) (by simp only [Tt,ht];grind) (fun x h1 h2 h3=>by
  have:=hw x h1 h2 (fun e he=>h3 e (by simp [he]))
  simp only [Wt,if_pos h2,if_neg (show¬x<a by grind)]
  grind)
 simp only [Ct] at this
 rw [qB9,qCn hab] at this
 grind
theorem qxI{a b k:Rat}(hab:a<=b){L:List (Rat×Rat)}(ht:Tt L=0)(hw: ∀x,a<x->x<b->(∀e∈L,e.1≠x)->Wt L x<=k):Ct (clp a b) L<=k*(b-a):=by
 have:=qqV (k:= -k) hab (L:=ngL L) (by rw [qAL,ht];grind) (fun x h1 h2 h3=>by
  have:=hw x h1 h2 (fun e he=>h3 (e.1, -e.2) (List.mem_map.2 ⟨e,he,rfl⟩))
  rw [qAr];grind)
 rw [qzY] at this
 grind
def Cob(f g:P2->P2->Rat):Prop:= ∃c:P2->Rat,∀p q,f p q=g p q+(c q-c p)
theorem Cob.symm{f g}(h:Cob f g):Cob g f:=by
 obtain ⟨c,h⟩:=h
 exact ⟨fun p=> -c p,fun p q=>by rw [h];grind⟩
theorem Cob.trans{f g k}(h:Cob f g)(h':Cob g k):Cob f k:=by
 obtain ⟨c,h⟩:=h
 obtain ⟨d,h'⟩:=h'
 exact ⟨fun p=>c p+d p,fun p q=>by rw [h,h'];grind⟩
theorem Cob.hf{f g}(H:Hf)(h:Cob f g):Cob (hf H f) (hf H g):=by
 obtain ⟨c,h⟩:=h
 refine ⟨fun p=>if 0<=H.s p then c p-c H.b else 0,fun p q=> ?_⟩
 unfold Nw.hf
 by_cases h1:0<=H.s p<;>by_cases h2:0<=H.s q
 ·simp only [if_pos h1,if_pos h2,h];grind
 ·simp only [if_pos h1,if_neg h2,h];grind
 ·simp only [if_neg h1,if_pos h2,h];grind
 ·simp only [if_neg h1,if_neg h2];grind
theorem Cob.exa{f g}(h:Cob f g)(hg:Exa g):Exa f:=by
 obtain ⟨c,h⟩:=h
 intro u v r s t
 have:=hg u v r s t
 rw [h,h,h];grind
def Hf.pr(H:Hf)(p:P2):P2:=if H.ax then (H.c,p.2) else (p.1,H.c)
theorem Hf.s_pr(H:Hf)(p:P2):H.s (H.pr p)=0:=by
 obtain ⟨ax,up,c⟩:=H
 cases ax<;>cases up<;>simp [Hf.s,Hf.pr] <;>grind
theorem Hf.pr_on(H:Hf){p:P2}(h:H.s p=0):H.pr p=p:=by
 obtain ⟨ax,up,c⟩:=H
 obtain ⟨x,y⟩:=p
 cases ax<;>cases up<;>simp [Hf.s,Hf.pr] at h ⊢ <;>grind
def kf(H:Hf)(f:P2->P2->Rat)(p q:P2):Rat:=
 hf H f p q+((if 0<=H.s q then 0 else f H.b (H.pr q))-(if 0<=H.s p then 0 else f H.b (H.pr p)))
theorem qkX(H:Hf)(f):Cob (kf H f) (hf H f):=⟨fun p=>if 0<=H.s p then 0 else f H.b (H.pr p),fun p q=>rfl⟩
theorem qgF(H:Hf){f}(h:Exa f):Exa (kf H f):=(qkX H f).exa (qhq H h)
theorem qjX{H:Hf}{f p q}(h1:0<=H.s p)(h2:0<=H.s q):kf H f p q=f p q:=by
 unfold kf hf
 simp only [if_pos h1,if_pos h2];grind
theorem qz6{H:Hf}{f p q}(h:Exa f)(h1:0<=H.s p)(h2:H.s q<0):kf H f p q=f p (crs H p q)+f (crs H p q) (H.pr q):=by
 have e:=h.pot H (qfQ H (p:=p) (q:=q) (by grind)) (H.s_pr q)
 unfold kf hf
 simp only [if_pos h1,if_neg (show¬0<=H.s q by grind)];grind
theorem qzL{H:Hf}{f p q}(h:Exa f)(h1:H.s p<0)(h2:0<=H.s q):kf H f p q=f (H.pr p) (crs H p q)+f (crs H p q) q:=by
 have e:=h.pot H (H.s_pr p) (qfQ H (p:=p) (q:=q) (by grind))
 unfold kf hf
 simp only [if_pos h2,if_neg (show¬0<=H.s p by grind)];grind
theorem qAo{H:Hf}{f p q}(h:Exa f)(h1:H.s p<0)(h2:H.s q<0):kf H f p q=f (H.pr p) (H.pr q):=by
 have e:=h.pot H (H.s_pr p) (H.s_pr q)
 unfold kf hf
 simp only [if_neg (show¬0<=H.s p by grind),if_neg (show¬0<=H.s q by grind)];grind
theorem qnC{H:Hf}{f p q}(h:Exa f)(h1:H.s p<=0)(h2:H.s q<=0):kf H f p q=f (H.pr p) (H.pr q):=by
 by_cases a:H.s p=0<;>by_cases b:H.s q=0
 ·rw [qjX (by grind) (by grind),H.pr_on a,H.pr_on b]
 ·rw [qz6 h (by grind) (by grind),qjf H a,H.pr_on a,h.self];grind
 ·rw [qzL h (by grind) (by grind),qia H b a,H.pr_on b,h.self];grind
 ·exact qAo h (by grind) (by grind)
theorem qhy(H:Hf){p q:P2}(h:(H.s p<0/\0<=H.s q)\/(0<=H.s p/\H.s q<0)): ∃t,0<=t/\t<=1/\crs H p q=lin p q t:=by
 refine ⟨H.s p/(H.s p-H.s q), ?_, ?_,rfl⟩
 ·rcases h with h|h
  ·have:=(qbH (x:= -H.s p) (y:=H.s q-H.s p) (by grind) (by grind) (by grind)).1
   have e:H.s p/(H.s p-H.s q)= -H.s p/(H.s q-H.s p):=by
    have:H.s p-H.s q≠0:=by grind
    have:H.s q-H.s p≠0:=by grind
    grind
   rw [e];exact this
  ·exact (qbH (x:=H.s p) (y:=H.s p-H.s q) (by grind) (by grind) (by grind)).1
 ·rcases h with h|h
  ·have:=(qbH (x:= -H.s p) (y:=H.s q-H.s p) (by grind) (by grind) (by grind)).2
   have e:H.s p/(H.s p-H.s q)= -H.s p/(H.s q-H.s p):=by
    have:H.s p-H.s q≠0:=by grind
    have:H.s q-H.s p≠0:=by grind
    grind
   rw [e];exact this
  ·exact (qbH (x:=H.s p) (y:=H.s p-H.s q) (by grind) (by grind) (by grind)).2
theorem qjg{H:Hf}{f}(h:Exa f){R:P2->Prop}(hz: ∀a b,R a->R b->f a b=0)(hl: ∀a b t,R a->R b->0<=t->t<=1->R (lin a b t))(hp: ∀a,R a->R (H.pr a)):
  ∀a b,R a->R b->kf H f a b=0:=by
 intro a b ha hb
 by_cases h1:0<=H.s a<;>by_cases h2:0<=H.s b
 ·rw [qjX h1 h2,hz _ _ ha hb]
 ·obtain ⟨t,t0,t1,e⟩:=qhy H (p:=a) (q:=b) (.inr ⟨h1,by grind⟩)
  rw [qz6 h h1 (by grind),e,hz _ _ ha (hl _ _ _ ha hb t0 t1),hz _ _ (hl _ _ _ ha hb t0 t1) (hp _ hb)];grind
 ·obtain ⟨t,t0,t1,e⟩:=qhy H (p:=a) (q:=b) (.inl ⟨by grind,h2⟩)
  rw [qzL h (by grind) h2,e,hz _ _ (hp _ ha) (hl _ _ _ ha hb t0 t1),hz _ _ (hl _ _ _ ha hb t0 t1) hb];grind
 ·rw [qAo h (by grind) (by grind),hz _ _ (hp _ ha) (hp _ hb)]
def gr(p q:P2):Rat:=(p.1+q.1)*(q.2-p.2)
theorem qrq:Exa gr:=by
 intro u v r s t
 simp only [gr,lin];grind
theorem qFc:Cob ar gr:=⟨fun p=> -(p.1*p.2),fun p q=>by simp only [ar,gr];grind⟩
def FY(y0 y1:Rat):P2->P2->Rat:=kf ⟨false,true,y0⟩ (kf ⟨false,false,y1⟩ gr)
def KB(x0 y0 x1 y1:Rat):P2->P2->Rat:=kf ⟨true,true,x0⟩ (kf ⟨true,false,x1⟩ (FY y0 y1))
def hB(x0 y0 x1 y1:Rat):P2->P2->Rat:=hf ⟨true,true,x0⟩ (hf ⟨true,false,x1⟩ (hf ⟨false,true,y0⟩ (hf ⟨false,false,y1⟩ ar)))
theorem qhN(y0 y1):Exa (FY y0 y1):=qgF _ (qgF _ qrq)
theorem qpg(x0 y0 x1 y1):Exa (KB x0 y0 x1 y1):=qgF _ (qgF _ (qhN _ _))
theorem qv5(x0 y0 x1 y1):Cob (hB x0 y0 x1 y1) (KB x0 y0 x1 y1):=by
 refine Cob.symm ((qkX _ _).trans (Cob.hf _ ((qkX _ _).trans (Cob.hf _ ((qkX _ _).trans (Cob.hf _ ((qkX _ _).trans (Cob.hf _ ?_))))))))
 exact qFc.symm
theorem qmo(x0 y0 x1 y1:Rat)(l:List P2):qni x0 y0 x1 y1 l=tot (hB x0 y0 x1 y1) l:=by
 unfold qni qBP hB
 have e:=qhq ⟨false,false,y1⟩ qpQ
 have e2:=qhq ⟨false,true,y0⟩ e
 rw [qdL _ qpQ,qdL _ e,qdL _ e2,qdL _ (qhq _ e2)]
theorem qqY{y0 y1:Rat}{p q:P2}(hp:y0<=p.2/\p.2<=y1)(hq:y0<=q.2/\q.2<=y1):FY y0 y1 p q=gr p q:=by
 unfold FY
 rw [qjX (by rw [qly];grind) (by rw [qly];grind),qjX (by rw [qlN];grind) (by rw [qlN];grind)]
theorem qzS{y0 y1:Rat}(hy:y0<=y1){p q:P2}(hp:p.2<=y0)(hq:q.2<=y0):FY y0 y1 p q=0:=by
 unfold FY
 rw [qnC (qgF _ qrq) (by rw [qly];grind) (by rw [qly];grind),qjX (by rw [qlN];simp [Hf.pr];grind) (by rw [qlN];simp [Hf.pr];grind)]
 simp only [gr,Hf.pr];grind
theorem qvT{y0 y1:Rat}(hy:y0<=y1){p q:P2}(hp:y1<=p.2)(hq:y1<=q.2):FY y0 y1 p q=0:=by
 unfold FY
 rw [qjX (by rw [qly];grind) (by rw [qly];grind),qnC qrq (by rw [qlN];grind) (by rw [qlN];grind)]
 simp only [gr,Hf.pr];grind
theorem qy6{a b t y:Rat}(h1:a<=y)(h2:b<=y)(t0:0<=t)(t1:t<=1):a+(b-a)*t<=y:=by
 have m1:=Rat.mul_nonneg t0 (show 0<=y-b by grind)
 have m2:=Rat.mul_nonneg (show 0<=1-t by grind) (show 0<=y-a by grind)
 grind
theorem qBC{a b t y:Rat}(h1:y<=a)(h2:y<=b)(t0:0<=t)(t1:t<=1):y<=a+(b-a)*t:=by
 have m1:=Rat.mul_nonneg t0 (show 0<=b-y by grind)
 have m2:=Rat.mul_nonneg (show 0<=1-t by grind) (show 0<=a-y by grind)
 grind
theorem quG{x0 y0 x1 y1:Rat}(hy:y0<=y1){p q:P2}(hp:p.2<=y0)(hq:q.2<=y0):KB x0 y0 x1 y1 p q=0:=by
 have l: ∀a b:P2,∀t,a.2<=y0->b.2<=y0->0<=t->t<=1->(lin a b t).2<=y0:=fun a b t h1 h2 t0 t1=>qy6 h1 h2 t0 t1
 refine qjg (R:=fun p=>p.2<=y0) (qgF _ (qhN _ _)) (qjg (R:=fun p=>p.2<=y0) (qhN _ _) (fun a b h1 h2=>qzS hy h1 h2) l (fun a h=> ?_)) l (fun a h=> ?_) p q hp hq
 ·simpa [Hf.pr] using h
 ·simpa [Hf.pr] using h
theorem qpI{x0 y0 x1 y1:Rat}(hy:y0<=y1){p q:P2}(hp:y1<=p.2)(hq:y1<=q.2):KB x0 y0 x1 y1 p q=0:=by
 have l: ∀a b:P2,∀t,y1<=a.2->y1<=b.2->0<=t->t<=1->y1<=(lin a b t).2:=fun a b t h1 h2 t0 t1=>qBC h1 h2 t0 t1
 refine qjg (R:=fun p=>y1<=p.2) (qgF _ (qhN _ _)) (qjg (R:=fun p=>y1<=p.2) (qhN _ _) (fun a b h1 h2=>qvT hy h1 h2) l (fun a h=> ?_)) l (fun a h=> ?_) p q hp hq
 ·simpa [Hf.pr] using h
 ·simpa [Hf.pr] using h
def qhd(x a b:Rat):Prop:=(a<=x/\b<=x)\/(x<=a/\x<=b)
theorem qwM{x0 y0 x1 y1 a b:Rat}(hx:x0<=x1)(hy:y0<=y1)(s0:qhd x0 a b)(s1:qhd x1 a b):KB x0 y0 x1 y1 (a,y0) (b,y1)=2*(y1-y0)*clp x0 x1 ((a+b)/2):=by
 unfold KB
 rcases s0 with s0|s0
 ·rw [qnC (qgF _ (qhN _ _)) (by rw [qqp];grind) (by rw [qqp];grind),qjX (by rw [qlo];simp [Hf.pr];grind) (by rw [qlo];simp [Hf.pr];grind),qqY (by simp [Hf.pr];grind) (by simp [Hf.pr];grind)]
  unfold clp
  rw [if_pos (by grind)]
  simp only [gr,Hf.pr];grind
 ·rw [qjX (by rw [qqp];grind) (by rw [qqp];grind)]
  rcases s1 with s1|s1
  ·rw [qjX (by rw [qlo];grind) (by rw [qlo];grind),qqY (by simp;grind) (by simp;grind)]
   have:clp x0 x1 ((a+b)/2)=(a+b)/2:=by
    unfold clp
    by_cases h1:(a+b)/2<=x0
    ·rw [if_pos h1];grind
    ·by_cases h2:x1<=(a+b)/2
     ·rw [if_neg h1,if_pos h2];grind
     ·rw [if_neg h1,if_neg h2]
   rw [this]
   simp only [gr];grind
  ·rw [qnC (qhN _ _) (by rw [qlo];grind) (by rw [qlo];grind),qqY (by simp [Hf.pr];grind) (by simp [Hf.pr];grind)]
   have:clp x0 x1 ((a+b)/2)=x1:=by
    unfold clp
    by_cases h1:(a+b)/2<=x0
    ·rw [if_pos h1];grind
    ·rw [if_neg h1,if_pos (by grind)]
   rw [this]
   simp only [gr,Hf.pr];grind
def xat(p q:P2)(y:Rat):Rat:=p.1+(q.1-p.1)*((y-p.2)/(q.2-p.2))
theorem qj8{p q:P2}(h:p.2≠q.2)(y:Rat):lin p q ((y-p.2)/(q.2-p.2))=(xat p q y,y):=by
 have:q.2-p.2≠0:=by grind
 simp only [lin,xat,Prod.mk.injEq,true_and];grind
theorem qeA{p q:P2}(h:p.2≠q.2)(y:Rat):xat q p y=xat p q y:=by
 have h1:q.2-p.2≠0:=by grind
 have h2:p.2-q.2≠0:=by grind
 have e:(y-q.2)/(p.2-q.2)=1-(y-p.2)/(q.2-p.2):=by grind
 unfold xat
 rw [e];grind
theorem qvE{p q:P2}(a b:Rat):(xat p q a+xat p q b)/2=xat p q ((a+b)/2):=by
 unfold xat
 have e:((a+b)/2-p.2)/(q.2-p.2)=((a-p.2)/(q.2-p.2)+(b-p.2)/(q.2-p.2))/2:=by
  by_cases h:q.2-p.2=0
  ·rw [h];grind
  ·grind
 rw [e];grind
theorem qyq{x0 y0 x1 y1:Rat}(hx:x0<=x1)(hy:y0<y1){p q:P2}(hp:p.2<=y0)(hq:y1<=q.2)(s0:qhd x0 (xat p q y0) (xat p q y1))(s1:qhd x1 (xat p q y0) (xat p q y1)):
  KB x0 y0 x1 y1 p q=2*(y1-y0)*clp x0 x1 (xat p q ((y0+y1)/2)):=by
 have hne:p.2≠q.2:=by grind
 have k:=qpg x0 y0 x1 y1 p q
 have e1:=k 0 ((y0-p.2)/(q.2-p.2)) ((y1-p.2)/(q.2-p.2))
 have e2:=k 0 ((y1-p.2)/(q.2-p.2)) 1
 rw [qaw,qj8 hne,qj8 hne] at e1
 rw [qaw,qa6,qj8 hne] at e2
 rw [quG (by grind) hp Rat.le_refl,qwM hx (by grind) s0 s1] at e1
 rw [qpI (p:=(xat p q y1,y1)) (by grind) Rat.le_refl hq] at e2
 rw [qvE] at e1
 grind
theorem qxn{x0 y0 x1 y1:Rat}(hx:x0<=x1)(hy:y0<y1){p q:P2}(hp:q.2<=y0)(hq:y1<=p.2)(s0:qhd x0 (xat p q y0) (xat p q y1))(s1:qhd x1 (xat p q y0) (xat p q y1)):
  KB x0 y0 x1 y1 p q= -(2*(y1-y0)*clp x0 x1 (xat p q ((y0+y1)/2))):=by
 have hne:q.2≠p.2:=by grind
 have e:=qyq hx hy (p:=q) (q:=p) hp hq (by rw [qeA hne.symm,qeA hne.symm];exact s0) (by rw [qeA hne.symm,qeA hne.symm];exact s1)
 rw [qeA hne.symm] at e
 have k:=qpg x0 y0 x1 y1 p q 0 1 0
 rw [qaw,qa6,(qpg x0 y0 x1 y1).self] at k
 grind
def Clo(E:List (P2×P2)):Prop:= ∀c:P2->Rat,qbU (fun p q=>c q-c p) E=0
theorem qib(l:List P2):Clo (cyc l):=fun c=>qmQ c l
theorem Cob.sum{f g}(h:Cob f g){E}(hE:Clo E):qbU f E=qbU g E:=by
 obtain ⟨c,h⟩:=h
 rw [qgp h,qg4,hE c];grind
def wnE(E:List (P2×P2))(q:P2):Int:=qgU (fun u v=>crI u v q) E
def qEz(E:List (P2×P2))(q:P2):Prop:= ∀e∈E,∀t:Rat,0<=t->t<=1->lin e.1 e.2 t≠q
def qhz(u v:P2)(y:Rat):Rat:=if u.2<=y/\y<v.2 then 1 else if v.2<=y/\y<u.2 then-1 else 0
def enL(E:List (P2×P2))(y:Rat):List (Rat×Rat):=E.map fun e=>(xat e.1 e.2 y,qhz e.1 e.2 y)
theorem qp8{u v:P2}(h:u.2≠v.2)(x y:Rat):orQ u v (x,y)=(v.2-u.2)*(xat u v y-x):=by
 have:v.2-u.2≠0:=by grind
 simp only [orQ,xat];grind
theorem qvu(u v:P2)(x y:Rat):(crI u v (x,y):Rat)=if x<xat u v y then qhz u v y else 0:=by
 unfold crI qhz
 by_cases h1:u.2<=y/\y<v.2
 ·have hn:u.2≠v.2:=by grind
  have e:(0<orQ u v (x,y))↔x<xat u v y:=by
   rw [qp8 hn,qaz (by grind)];constructor<;>grind
  rw [if_pos h1]
  by_cases hx:x<xat u v y
  ·rw [if_pos ⟨h1.1,h1.2,e.2 hx⟩,if_pos hx];rfl
  ·rw [if_neg (fun h=>hx (e.1 h.2.2)),if_neg (by grind),if_neg hx];rfl
 ·by_cases h2:v.2<=y/\y<u.2
  ·have hn:v.2≠u.2:=by grind
   have e:(0<orQ v u (x,y))↔x<xat u v y:=by
    rw [qp8 hn,qaz (by grind),qeA (p:=u) (q:=v) hn.symm];constructor<;>grind
   rw [if_neg (by grind),if_neg h1,if_pos h2]
   by_cases hx:x<xat u v y
   ·rw [if_pos ⟨h2.1,h2.2,e.2 hx⟩,if_pos hx];rfl
   ·rw [if_neg (fun h=>hx (e.1 h.2.2)),if_neg hx];rfl
  ·rw [if_neg (by grind),if_neg (by grind),if_neg h1,if_neg h2]
   split<;>rfl
theorem qtK(x y:Rat): ∀E,Wt (enL E y) x=(wnE E (x,y):Rat)
 | [] =>rfl
 |e::E=>by
  simp only [enL,List.map_cons,Wt]
  rw [show List.map _ E=enL E y from rfl,qtK x y E, <-qvu]
  simp only [wnE,qgU,Rat.intCast_add]
theorem qr4(u v:P2)(y:Rat):qhz u v y=(if y<v.2 then (1:Rat) else 0)-(if y<u.2 then (1:Rat) else 0):=by
 unfold qhz
 by_cases h1:y<v.2<;>by_cases h2:y<u.2
 ·rw [if_neg (by grind),if_neg (by grind),if_pos h1,if_pos h2];grind
 ·rw [if_pos ⟨by grind,h1⟩,if_pos h1,if_neg h2];grind
 ·rw [if_neg (by grind),if_pos ⟨by grind,h2⟩,if_neg h1,if_pos h2];grind
 ·rw [if_neg (by grind),if_neg (by grind),if_neg h1,if_neg h2];grind
theorem qxM(y:Rat)(E)(h:Clo E):Tt (enL E y)=0:=by
 have key: ∀E,Tt (enL E y)=qbU (fun p q=>(if y<q.2 then (1:Rat) else 0)-(if y<p.2 then (1:Rat) else 0)) E:=by
  intro E
  induction E with
  |nil=>rfl
  |cons e E ih=>
   simp only [enL,List.map_cons,Tt,qbU] at ih ⊢
   rw [ih,qr4]
 rw [key];exact h _
def fits(x0 x1 y0 y1:Rat)(e:P2×P2):Prop:=
 (e.1.2<=y0\/y1<=e.1.2)/\(e.2.2<=y0\/y1<=e.2.2)/\(e.1.2≠e.2.2->qhd x0 (xat e.1 e.2 y0) (xat e.1 e.2 y1)/\qhd x1 (xat e.1 e.2 y0) (xat e.1 e.2 y1))
theorem qwy{x0 x1 y0 y1:Rat}(hx:x0<=x1)(hy:y0<y1){e:P2×P2}(h:fits x0 x1 y0 y1 e):
  KB x0 y0 x1 y1 e.1 e.2=2*(y1-y0)*(qhz e.1 e.2 ((y0+y1)/2)*clp x0 x1 (xat e.1 e.2 ((y0+y1)/2))):=by
 obtain ⟨h1,h2,h3⟩:=h
 unfold qhz
 rcases h1 with h1|h1<;>rcases h2 with h2|h2
 ·rw [quG (by grind) h1 h2,if_neg (by grind),if_neg (by grind)];grind
 ·obtain ⟨s0,s1⟩:=h3 (by grind)
  rw [qyq hx hy h1 h2 s0 s1,if_pos (by constructor<;>grind)];grind
 ·obtain ⟨s0,s1⟩:=h3 (by grind)
  rw [qxn hx hy h2 h1 s0 s1,if_neg (by grind),if_pos (by constructor<;>grind)];grind
 ·rw [qpI (by grind) h1 h2,if_neg (by grind),if_neg (by grind)];grind
theorem qmI{x0 x1 y0 y1:Rat}(hx:x0<=x1)(hy:y0<y1): ∀E:List (P2×P2),(∀e∈E,fits x0 x1 y0 y1 e)->
  qbU (KB x0 y0 x1 y1) E=2*(y1-y0)*Ct (clp x0 x1) (enL E ((y0+y1)/2))
 | [],_=>by simp only [qbU,enL,List.map_nil,Ct];grind
 |e::E,h=>by
  simp only [qbU,enL,List.map_cons,Ct]
  rw [show List.map _ E=enL E ((y0+y1)/2) from rfl,qmI hx hy E (fun e he=>h e (by simp [he])),qwy hx hy (h e (by simp))]
  grind
theorem qmb{E:List (P2×P2)}{x y:Rat}(hy: ∀e∈E,e.1.2≠y/\e.2.2≠y)(hx: ∀f∈enL E y,f.1≠x):qEz E (x,y):=by
 intro e he t t0 t1 heq
 have h1:e.1.1+(e.2.1-e.1.1)*t=x:=congrArg Prod.fst heq
 have h2:e.1.2+(e.2.2-e.1.2)*t=y:=congrArg Prod.snd heq
 have hh:=hy e he
 have hx':=hx (xat e.1 e.2 y,qhz e.1 e.2 y) (List.mem_map.2 ⟨e,he,rfl⟩)
 have hne:e.2.2-e.1.2≠0:=by
  intro h0;rw [h0] at h2;apply hh.1;grind
 apply hx'
 simp only [xat]
 have:(y-e.1.2)/(e.2.2-e.1.2)=t:=by grind
 rw [this];exact h1
theorem qvq{E:List (P2×P2)}(hE:Clo E){x0 x1 y0 y1 k:Rat}(hx:x0<=x1)(hy:y0<y1)(hf: ∀e∈E,fits x0 x1 y0 y1 e)
  (hw: ∀x y,x0<x->x<x1->y0<y->y<y1->qEz E (x,y)->k<=(wnE E (x,y):Rat)):2*k*((x1-x0)*(y1-y0))<=qbU (hB x0 y0 x1 y1) E:=by
 rw [(qv5 x0 y0 x1 y1).sum hE,qmI hx hy E hf]
 have key:=qqV (k:=k) hx (qxM ((y0+y1)/2) E hE) (fun x a1 a2 a3=>by
  rw [qtK]
  refine hw x _ a1 a2 (by grind) (by grind) (qmb (fun e he=> ?_) a3)
  obtain ⟨b1,b2,_⟩:=hf e he
  constructor<;>grind)
 have:=Rat.mul_le_mul_of_nonneg_left key (show 0<=2*(y1-y0) by grind)
 grind
theorem qxN{E:List (P2×P2)}(hE:Clo E){x0 x1 y0 y1 k:Rat}(hx:x0<=x1)(hy:y0<y1)(hf: ∀e∈E,fits x0 x1 y0 y1 e)
  (hw: ∀x y,x0<x->x<x1->y0<y->y<y1->qEz E (x,y)->(wnE E (x,y):Rat)<=k):qbU (hB x0 y0 x1 y1) E<=2*k*((x1-x0)*(y1-y0)):=by
 rw [(qv5 x0 y0 x1 y1).sum hE,qmI hx hy E hf]
 have key:=qxI (k:=k) hx (qxM ((y0+y1)/2) E hE) (fun x a1 a2 a3=>by
  rw [qtK]
  refine hw x _ a1 a2 (by grind) (by grind) (qmb (fun e he=> ?_) a3)
  obtain ⟨b1,b2,_⟩:=hf e he
  constructor<;>grind)
 have:=Rat.mul_le_mul_of_nonneg_left key (show 0<=2*(y1-y0) by grind)
 grind
def htE(x0 x1:Rat)(e:P2×P2):List Rat:=
 [e.1.2,e.2.2,e.1.2+(e.2.2-e.1.2)*((x0-e.1.1)/(e.2.1-e.1.1)),e.1.2+(e.2.2-e.1.2)*((x1-e.1.1)/(e.2.1-e.1.1))]
theorem qpE{p q:P2}{x y0 y1:Rat}(hpq:p.2≠q.2)(hy:y0<y1)(h: ¬(y0<p.2+(q.2-p.2)*((x-p.1)/(q.1-p.1))/\p.2+(q.2-p.2)*((x-p.1)/(q.1-p.1))<y1)):
  qhd x (xat p q y0) (xat p q y1):=by
 have hd:q.2-p.2≠0:=by grind
 obtain ⟨m,hm⟩: ∃m,m=(q.1-p.1)/(q.2-p.2):=⟨_,rfl⟩
 have e: ∀y,xat p q y=p.1+m*(y-p.2):=fun y=>by unfold xat;rw [hm];grind
 rw [e,e]
 by_cases hz:q.1-p.1=0
 ·have:m=0:=by rw [hm,hz];grind
  rw [this]
  unfold qhd
  by_cases hx:p.1<=x
  ·left;constructor<;>grind
  ·right;constructor<;>grind
 ·have hc:p.1+m*(p.2+(q.2-p.2)*((x-p.1)/(q.1-p.1))-p.2)=x:=by rw [hm];grind
  generalize p.2+(q.2-p.2)*((x-p.1)/(q.1-p.1))=c at*
  unfold qhd
  by_cases h1:y0<c
  ·have h2:y1<=c:=by grind
   by_cases m0:0<=m
   ·left
    have a1:=Rat.mul_nonneg m0 (show 0<=c-y0 by grind)
    have a2:=Rat.mul_nonneg m0 (show 0<=c-y1 by grind)
    constructor<;>grind
   ·right
    have a1:=Rat.mul_nonneg (show 0<= -m by grind) (show 0<=c-y0 by grind)
    have a2:=Rat.mul_nonneg (show 0<= -m by grind) (show 0<=c-y1 by grind)
    constructor<;>grind
  ·by_cases m0:0<=m
   ·right
    have a1:=Rat.mul_nonneg m0 (show 0<=y0-c by grind)
    have a2:=Rat.mul_nonneg m0 (show 0<=y1-c by grind)
    constructor<;>grind
   ·left
    have a1:=Rat.mul_nonneg (show 0<= -m by grind) (show 0<=y0-c by grind)
    have a2:=Rat.mul_nonneg (show 0<= -m by grind) (show 0<=y1-c by grind)
    constructor<;>grind
theorem qmj{x0 x1 y0 y1:Rat}(hy:y0<y1){e:P2×P2}(h: ∀c∈htE x0 x1 e,¬(y0<c/\c<y1)):fits x0 x1 y0 y1 e:=by
 simp only [htE,List.mem_cons,List.not_mem_nil,or_false,forall_eq_or_imp,forall_eq] at h
 obtain ⟨h1,h2,h3,h4⟩:=h
 refine ⟨by grind,by grind,fun hn=>⟨qpE hn hy h3,qpE hn hy h4⟩⟩
theorem qBi{P:Rat->Rat->Prop}(hs: ∀a m b,a<m->m<b->P a m->P m b->P a b): ∀(H A:List Rat),
  (∀a b,a<b->(∀h∈H++A,¬(a<h/\h<b))->P a b)-> ∀a b,a<b->(∀h∈A,¬(a<h/\h<b))->P a b
 | [],A,hp,a,b,hab,hA=>hp a b hab (by simpa using hA)
 |c::H,A,hp,a,b,hab,hA=>by
  have ih:=qBi hs H (c::A) (fun a b h1 h2=>hp a b h1 (fun h hh=>h2 h (by simp at hh ⊢;rcases hh with h|h|h<;>simp [h])))
  by_cases hc:a<c/\c<b
  ·refine hs a c b hc.1 hc.2 (ih a c hc.1 fun h hh=> ?_) (ih c b hc.2 fun h hh=> ?_)
   ·rcases List.mem_cons.1 hh with rfl|hh
    ·grind
    ·have:=hA h hh;grind
   ·rcases List.mem_cons.1 hh with rfl|hh
    ·grind
    ·have:=hA h hh;grind
  ·refine ih a b hab fun h hh=> ?_
   rcases List.mem_cons.1 hh with rfl|hh
   ·exact hc
   ·exact hA h hh
theorem qt1{P:Rat->Rat->Prop}(hs: ∀a m b,a<m->m<b->P a m->P m b->P a b)(H:List Rat)
  (hp: ∀a b,a<b->(∀h∈H,¬(a<h/\h<b))->P a b) {a b:Rat} (h:a<b):P a b:=
 qBi hs H [] (fun a b h1 h2=>hp a b h1 (fun h hh=>h2 h (by simpa using hh))) a b h (by simp)
def scL(σ:Rat)(L:List (Rat×Rat)):List (Rat×Rat):=L.map fun e=>(e.1,σ*e.2)
theorem qAt(σ:Rat)(c:Rat->Rat): ∀L,Ct c (scL σ L)=σ*Ct c L
 | [] =>by simp only [scL,List.map_nil,Ct];grind
 |e::l=>by simp only [scL,List.map_cons,Ct];rw [show List.map _ l=scL σ l from rfl,qAt σ c l];grind
theorem qBJ(σ:Rat): ∀L,Tt (scL σ L)=σ*Tt L
 | [] =>by simp only [scL,List.map_nil,Tt];grind
 |e::l=>by simp only [scL,List.map_cons,Tt];rw [show List.map _ l=scL σ l from rfl,qBJ σ l];grind
theorem qA4(σ x:Rat): ∀L,Wt (scL σ L) x=σ*Wt L x
 | [] =>by simp only [scL,List.map_nil,Wt];grind
 |e::l=>by simp only [scL,List.map_cons,Wt];rw [show List.map _ l=scL σ l from rfl,qA4 σ x l];split<;>grind
theorem qh8{x:Rat}: ∀L:List (Rat×Rat),(∀e∈L,e.2≠0->e.1<=x)->Wt L x=0
 | [],_=>rfl
 |e::l,h=>by
  simp only [Wt]
  rw [qh8 l (fun e he=>h e (by simp [he]))]
  have:=h e (by simp)
  by_cases h0:e.2=0
  ·rw [h0];split<;>grind
  ·rw [if_neg (by have:=this h0;grind)];grind
theorem qkb: ∀(L:List (Rat×Rat)) {a X:Rat},a<X->(∀e∈L,e.2≠0->e.1<X)-> ∃Y,a<Y/\Y<X/\ ∀e∈L,e.2≠0->e.1<=Y
 | [],a,X,h,_=>⟨(a+X)/2,by grind,by grind,by simp⟩
 |e::L,a,X,h,hl=>by
  obtain ⟨Y,h1,h2,h3⟩:=qkb L h (fun e he=>hl e (by simp [he]))
  by_cases he:e.2≠0/\Y<e.1
  ·refine ⟨e.1,by grind,hl e (by simp) he.1,fun f hf h0=> ?_⟩
   rcases List.mem_cons.1 hf with rfl|hf
   ·exact Rat.le_refl
   ·have:=h3 f hf h0;grind
  ·refine ⟨Y,h1,h2,fun f hf h0=> ?_⟩
   rcases List.mem_cons.1 hf with rfl|hf
   ·grind
   ·exact h3 f hf h0
theorem qsB{a b X s:Rat}{L:List (Rat×Rat)}(ha:a<X)(hb:X<b)(hs:s≠0)(hl: ∀e∈L,e.2≠0->e.1<X)(ht:Tt ((X,s)::L)=0)
  (hw: ∀x,a<x->x<b->(∀e∈(X,s)::L,e.1≠x)->0<=Wt ((X,s)::L) x):0<Ct (clp a b) ((X,s)::L):=by
 obtain ⟨Y,y1,y2,y3⟩:=qkb L ha hl
 have hs0:0<s:=by
  obtain ⟨x,a1,a2,a3⟩:=gap (((X,s)::L).map (·.1)) y2
  have:=hw x (by grind) (by grind) (fun e he=>a3 e.1 (List.mem_map.2 ⟨e,he,rfl⟩))
  simp only [Wt,if_pos a2] at this
  rw [qh8 L (fun e he h0=>by have:=y3 e he h0;grind)] at this
  grind
 have key:=qFy (a:=a) (b:=b) (by grind) (L:=(Y,s)::L) (by simp only [Tt] at ht ⊢;exact ht) (fun x a1 a2 a3=>by
  by_cases hx:x<Y
  ·have:=hw x a1 a2 (fun e he=>by
    rcases List.mem_cons.1 he with rfl|he
    ·show X≠x;grind
    ·exact a3 e (by simp [he]))
   simp only [Wt,if_pos hx,if_pos (show x<X by grind)] at this ⊢
   exact this
  ·simp only [Wt,if_neg hx]
   rw [qh8 L (fun e he h0=>by have:=y3 e he h0;grind)];grind)
 simp only [Ct] at key ⊢
 rw [qln y1 (by grind)] at key
 rw [qln ha hb]
 have:=Rat.mul_pos hs0 (show 0<X-Y by grind)
 grind
theorem qwi{l l':List P2}(h:Rot l l')(f:P2->P2->Rat):tot f l'=tot f l:=by
 refine Rot.ind (P:=fun l'=>tot f l'=tot f l) rfl (fun a t _ ih=> ?_) h
 obtain ⟨e,r,h1,h2⟩:=qjE a t
 unfold tot at ih ⊢
 rw [h1] at ih
 rw [h2,qcQ]
 simp only [qbU] at ih ⊢
 grind
theorem qnQ: ∀(L:List (P2×P2)) (y:Rat),(∃e∈L,qhz e.1 e.2 y≠0)-> ∃e∈L,qhz e.1 e.2 y≠0/\ ∀f∈L,qhz f.1 f.2 y≠0->xat f.1 f.2 y<=xat e.1 e.2 y
 | [],y,h=>by obtain ⟨e,he,_⟩:=h;simp at he
 |a::L,y,h=>by
  by_cases hL: ∃e∈L,qhz e.1 e.2 y≠0
  ·obtain ⟨e,he,h1,h2⟩:=qnQ L y hL
   by_cases ha:qhz a.1 a.2 y≠0/\xat e.1 e.2 y<=xat a.1 a.2 y
   ·refine ⟨a,by simp,ha.1,fun f hf h0=> ?_⟩
    rcases List.mem_cons.1 hf with rfl|hf
    ·exact Rat.le_refl
    ·have:=h2 f hf h0;grind
   ·refine ⟨e,by simp [he],h1,fun f hf h0=> ?_⟩
    rcases List.mem_cons.1 hf with rfl|hf
    ·grind
    ·exact h2 f hf h0
  ·obtain ⟨e,he,h1⟩:=h
   rcases List.mem_cons.1 he with rfl|he
   ·refine ⟨e,by simp,h1,fun f hf h0=> ?_⟩
    rcases List.mem_cons.1 hf with rfl|hf
    ·exact Rat.le_refl
    ·exact absurd ⟨f,hf,h0⟩ hL
   ·exact absurd ⟨e,he,h1⟩ hL
theorem qpe{u v:P2}{y:Rat}(h:qhz u v y≠0)(h1:u.2≠y)(h2:v.2≠y): ∃t,0<t/\t<1/\lin u v t=(xat u v y,y):=by
 have hc:(u.2<y/\y<v.2)\/(v.2<y/\y<u.2):=by
  unfold qhz at h
  by_cases a:u.2<=y/\y<v.2
  ·left;grind
  ·rw [if_neg a] at h
   by_cases b:v.2<=y/\y<u.2
   ·right;grind
   ·rw [if_neg b] at h;exact absurd rfl h
 have hn:u.2≠v.2:=by grind
 refine ⟨(y-u.2)/(v.2-u.2), ?_, ?_,qj8 hn y⟩
 ·have e:((y-u.2)/(v.2-u.2))*(v.2-u.2)=y-u.2:=by
   have:v.2-u.2≠0:=by grind
   grind
  generalize (y-u.2)/(v.2-u.2)=t at*
  rcases hc with hc|hc
  ·by_cases ht:0<t
   ·exact ht
   ·have:=Rat.mul_nonneg (show 0<= -t by grind) (show 0<=v.2-u.2 by grind);grind
  ·by_cases ht:0<t
   ·exact ht
   ·have:=Rat.mul_nonneg (show 0<= -t by grind) (show 0<=u.2-v.2 by grind);grind
 ·have e:((y-u.2)/(v.2-u.2))*(v.2-u.2)=y-u.2:=by
   have:v.2-u.2≠0:=by grind
   grind
  generalize (y-u.2)/(v.2-u.2)=t at*
  rcases hc with hc|hc
  ·by_cases ht:t<1
   ·exact ht
   ·have:=Rat.mul_nonneg (show 0<=t-1 by grind) (show 0<=v.2-u.2 by grind);grind
  ·by_cases ht:t<1
   ·exact ht
   ·have:=Rat.mul_nonneg (show 0<=t-1 by grind) (show 0<=u.2-v.2 by grind);grind
theorem qeI.top{l:List P2}(h:qeI l){y:Rat}(hy: ∀p∈l,p.2≠y)(he: ∃e∈cyc l,qhz e.1 e.2 y≠0):
  ∃a b c r,Rot l (a::b::c::r)/\qhz a b y≠0/\ ∀f∈prs b (c::r++ [a]),qhz f.1 f.2 y≠0->xat f.1 f.2 y<xat a b y:=by
 obtain ⟨e,he,h1,h2⟩:=qnQ _ y he
 obtain ⟨c,r,hr⟩:=qmN h.len he
 refine ⟨e.1,e.2,c,r,hr,h1,fun f hf h0=> ?_⟩
 have hfc:f∈cyc l:=by
  rw [<-qee hr]
  show f∈(e.1,e.2)::prs e.2 (c::r++ [e.1])
  exact List.mem_cons_of_mem _ hf
 have hle:=h2 f hfc h0
 refine Rat.lt_of_le_of_ne hle fun heq=> ?_
 obtain ⟨s,s0,s1,es⟩:=qpe h1 (hy _ (qa0 he).1) (hy _ (qa0 he).2)
 obtain ⟨t,t0,t1,et⟩:=qpe h0 (hy _ (qa0 hfc).1) (hy _ (qa0 hfc).2)
 rw [heq, <-es] at et
 have hcase:f=(e.2,c)\/f∈prs c r\/f=(qbh c r,e.1):=by
  simp only [List.cons_append,prs] at hf
  rcases List.mem_cons.1 hf with hf|hf
  ·exact .inl hf
  ·rw [qfc] at hf
   rcases List.mem_append.1 hf with hf|hf
   ·exact .inr (.inl hf)
   ·simp only [prs,List.mem_singleton] at hf
    exact .inr (.inr hf)
 rcases hcase with rfl|hf|rfl
 ·have:=qfo (h.cor _ _ _ _ hr) ⟨s0,s1⟩ ⟨s0,s1⟩ 0 t (by grind) (by grind) (by grind) (by grind)
  rw [qaw] at this
  exact this et.symm
 ·exact h.dis _ _ _ _ hr f hf s t (by grind) (by grind) (by grind) (by grind) et.symm
 ·have:=qhO (h.last hr) ⟨s0,s1⟩ ⟨s0,s1⟩ 0 t (by grind) (by grind) (by grind) (by grind)
  rw [qaw] at this
  exact this et.symm
theorem qxZ(l:List P2): ∃x0 y0 x1 y1:Rat,x0<x1/\y0<y1/\ ∀p∈l,x0<p.1/\p.1<x1/\y0<p.2/\p.2<y1:=by
 induction l with
 |nil=>exact ⟨0,0,1,1,by grind,by grind,by simp⟩
 |cons p l ih=>
  obtain ⟨x0,y0,x1,y1,h1,h2,h⟩:=ih
  refine ⟨if x0<p.1 then x0 else p.1-1,if y0<p.2 then y0 else p.2-1,if p.1<x1 then x1 else p.1+1,if p.2<y1 then y1 else p.2+1, ?_, ?_,fun q hq=> ?_⟩
  ·split<;>split<;>grind
  ·split<;>split<;>grind
  ·rcases List.mem_cons.1 hq with rfl|hq
   ·refine ⟨?_, ?_, ?_, ?_⟩<;>split<;>grind
   ·obtain ⟨a,b,c,d⟩:=h q hq
    refine ⟨?_, ?_, ?_, ?_⟩<;>split<;>grind
theorem qjJ(H:Hf){l:List P2}(h: ∀p∈l,0<=H.s p):cut H l=l:=by
 cases l with
 |nil=>rfl
 |cons a l=>
  have key: ∀(m:List P2) (c z:P2),(∀p∈c::m,0<=H.s p)->0<=H.s z->(prs c (m++ [z])).flatMap (qfh H)=c::m:=by
   intro m
   induction m with
   |nil=>intro c z hc hz;simp only [List.nil_append,prs,List.flatMap_cons,List.flatMap_nil];rw [qp4 (hc c (by simp)) hz];rfl
   |cons d m ih=>
    intro c z hc hz
    simp only [List.cons_append,prs,List.flatMap_cons]
    rw [qp4 (hc c (by simp)) (hc d (by simp)),ih d z (fun p hp=>hc p (List.mem_cons_of_mem _ hp)) hz];rfl
  exact key l a a h (h a (by simp))
theorem qsh{x0 y0 x1 y1:Rat}{l:List P2}(h: ∀p∈l,x0<=p.1/\p.1<=x1/\y0<=p.2/\p.2<=y1):qni x0 y0 x1 y1 l=tot ar l:=by
 unfold qni qBP
 rw [qjJ _ (l:=l) (fun p hp=>by rw [qqp];have:=h p hp;grind),qjJ _ (l:=l) (fun p hp=>by rw [qlo];have:=h p hp;grind),
  qjJ _ (l:=l) (fun p hp=>by rw [qly];have:=h p hp;grind),qjJ _ (l:=l) (fun p hp=>by rw [qlN];have:=h p hp;grind)]
theorem quW: ∀(H:List Rat) {a b:Rat},a<b-> ∃u v,a<u/\u<v/\v<b/\ ∀h∈H,¬(u<h/\h<v)
 | [],a,b,h=>⟨a+(b-a)/3,a+2*(b-a)/3,by grind,by grind,by grind,by simp⟩
 |c::H,a,b,h=>by
  obtain ⟨u,v,h1,h2,h3,h4⟩:=quW H h
  by_cases hc:u<c/\c<v
  ·refine ⟨u,c,h1,hc.1,by grind,fun x hx=> ?_⟩
   rcases List.mem_cons.1 hx with rfl|hx
   ·grind
   ·have:=h4 x hx;grind
  ·refine ⟨u,v,h1,h2,h3,fun x hx=> ?_⟩
   rcases List.mem_cons.1 hx with rfl|hx
   ·exact hc
   ·exact h4 x hx
theorem qxe{l:List P2}{x0 x1 y0 y1 k:Rat}(hx:x0<=x1)(hy:y0<y1)
  (hw: ∀x y,x0<x->x<x1->y0<y->y<y1->qmi l (x,y)->k<=(wn l (x,y):Rat)):2*k*((x1-x0)*(y1-y0))<=qni x0 y0 x1 y1 l:=by
 refine qt1 (P:=fun a b=>y0<=a->b<=y1->2*k*((x1-x0)*(b-a))<=qni x0 a x1 b l) (fun a m b h1 h2 p1 p2 ha hb=> ?_) ((cyc l).flatMap (htE x0 x1)) (fun a b hab hh ha hb=> ?_) hy Rat.le_refl Rat.le_refl
 ·have q1:=p1 ha (by grind)
  have q2:=p2 (by grind) hb
  rw [qnw (m:=m) h1 (by grind)]
  grind
 ·rw [qmo]
  refine qvq (qib l) hx hab (fun e he=>qmj hab fun c hc=>hh c (List.mem_flatMap.2 ⟨e,he,hc⟩)) (fun x y a1 a2 a3 a4 ho=>hw x y a1 a2 (by grind) (by grind) ho)
theorem qxA{l:List P2}{x0 x1 y0 y1 k:Rat}(hx:x0<=x1)(hy:y0<y1)
  (hw: ∀x y,x0<x->x<x1->y0<y->y<y1->qmi l (x,y)->(wn l (x,y):Rat)<=k):qni x0 y0 x1 y1 l<=2*k*((x1-x0)*(y1-y0)):=by
 refine qt1 (P:=fun a b=>y0<=a->b<=y1->qni x0 a x1 b l<=2*k*((x1-x0)*(b-a))) (fun a m b h1 h2 p1 p2 ha hb=> ?_) ((cyc l).flatMap (htE x0 x1)) (fun a b hab hh ha hb=> ?_) hy Rat.le_refl Rat.le_refl
 ·have q1:=p1 ha (by grind)
  have q2:=p2 (by grind) hb
  rw [qnw (m:=m) h1 (by grind)]
  grind
 ·rw [qmo]
  refine qxN (qib l) hx hab (fun e he=>qmj hab fun c hc=>hh c (List.mem_flatMap.2 ⟨e,he,hc⟩)) (fun x y a1 a2 a3 a4 ho=>hw x y a1 a2 (by grind) (by grind) ho)
theorem qeI.area{l:List P2}(h:qeI l){σ:Rat}(hσ:σ=1\/σ= -1)(hw: ∀q,qmi l q->0<=σ*(wn l q:Rat)):0<σ*tot ar l:=by
 obtain ⟨x0,y0,x1,y1,hx,hy,hbox⟩:=qxZ l
 rw [<-qsh (x0:=x0) (x1:=x1) (y0:=y0) (y1:=y1) (l:=l) (fun p hp=>by have:=hbox p hp;exact ⟨by grind,by grind,by grind,by grind⟩)]
 --each part has the sign
 have part: ∀a b,a<b->0<=σ*qni x0 a x1 b l:=fun a b hab=>by
  rcases hσ with rfl|rfl
  ·have:=qxe (l:=l) (k:=0) (x0:=x0) (x1:=x1) (by grind) hab (fun x y _ _ _ _ ho=>by have:=hw _ ho;grind)
   grind
  ·have:=qxA (l:=l) (k:=0) (x0:=x0) (x1:=x1) (by grind) hab (fun x y _ _ _ _ ho=>by have:=hw _ ho;grind)
   grind
 --an edge that goes up or down
 obtain ⟨e,he,hne⟩: ∃e∈cyc l,e.1.2≠e.2.2:=by
  have hl:=h.len
  match l,hl,h with
  |a::b::c::r,_,h=>
   have hc:=h.cor _ _ _ _ (Rot.self _)
   by_cases h1:a.2=b.2
   ·by_cases h2:b.2=c.2
    ·exfalso;apply hc;simp only [orQ];grind
    ·refine ⟨(b,c), ?_,h2⟩
     show (b,c)∈prs a (b::c::r++ [a])
     simp [prs]
   ·refine ⟨(a,b), ?_,h1⟩
    show (a,b)∈prs a (b::c::r++ [a])
    simp [prs]
 obtain ⟨lo,hi,hlh,hin⟩: ∃lo hi,lo<hi/\((e.1.2=lo/\e.2.2=hi)\/(e.1.2=hi/\e.2.2=lo)):=by
  by_cases h1:e.1.2<e.2.2
  ·exact ⟨_,_,h1,.inl ⟨rfl,rfl⟩⟩
  ·exact ⟨e.2.2,e.1.2,by grind,.inr ⟨rfl,rfl⟩⟩
 obtain ⟨u,v,hu,huv,hv,hav⟩:=quW ((cyc l).flatMap (htE x0 x1)) hlh
 have b1:=hbox _ (qa0 he).1
 have b2:=hbox _ (qa0 he).2
 have hfit: ∀e∈cyc l,fits x0 x1 u v e:=fun e he=>qmj huv fun c hc=>hav c (List.mem_flatMap.2 ⟨e,he,hc⟩)
 have strict:0<σ*qni x0 u x1 v l:=by
  have hym: ∀p∈l,p.2≠(u+v)/2:=fun p hp heq=>by
   obtain ⟨f,hf,e1⟩:=qfW hp
   obtain ⟨a1,_,_⟩:=hfit f hf
   rw [e1] at a1
   grind
  obtain ⟨a,b,c,r,hr,hs,htop⟩:=h.top hym ⟨e,he,by
   unfold qhz
   rcases hin with ⟨i1,i2⟩|⟨i1,i2⟩
   ·rw [if_pos (by rw [i1,i2];constructor<;>grind)];decide
   ·rw [if_neg (by rw [i1,i2];grind),if_pos (by rw [i1,i2];constructor<;>grind)];decide⟩
  have habm:(a,b)∈cyc l:=by rw [<-qee hr];exact List.mem_cons_self
  rw [qmo, <-qwi hr]
  unfold tot
  rw [(qv5 x0 u x1 v).sum (qib _),qmI (by grind) huv _ (fun f hf=>hfit f ((qee hr f).1 hf))]
  obtain ⟨t,t0,t1,et⟩:=qpe hs (hym _ (qa0 habm).1) (hym _ (qa0 habm).2)
  have exy:=congrArg Prod.fst et
  have pa:=hbox _ (qa0 habm).1
  have pb:=hbox _ (qa0 habm).2
  simp only [lin] at exy pa pb
  have X0:x0<xat a b ((u+v)/2):=by
   rw [<-exy]
   have m1:=Rat.mul_pos t0 (show 0<b.1-x0 by grind)
   have m2:=Rat.mul_pos (show 0<1-t by grind) (show 0<a.1-x0 by grind)
   grind
  have X1:xat a b ((u+v)/2)<x1:=by
   rw [<-exy]
   have m1:=Rat.mul_pos t0 (show 0<x1-b.1 by grind)
   have m2:=Rat.mul_pos (show 0<1-t by grind) (show 0<x1-a.1 by grind)
   grind
  have hz: ∀z:Rat,z≠0->σ*z≠0:=fun z hz=>by rcases hσ with rfl|rfl<;>grind
  have key:=qsB (s:=σ*qhz a b ((u+v)/2)) (L:=scL σ (enL (prs b (c::r++ [a])) ((u+v)/2))) X0 X1 (hz _ hs) (fun f hf h0=>by
   simp only [scL,enL,List.map_map,List.mem_map] at hf
   obtain ⟨g,hg,rfl⟩:=hf
   refine htop g hg (fun h1=>h0 ?_)
   show σ*qhz g.1 g.2 _=0
   rw [h1];grind)
   (by
    have e1:=qxM ((u+v)/2) _ (qib (a::b::c::r))
    have e2:=qBJ σ (enL (cyc (a::b::c::r)) ((u+v)/2))
    rw [e1] at e2
    have:σ*0=0:=by grind
    rw [this] at e2
    exact e2)
   (fun x a1 a2 a3=>by
    have e2:=qA4 σ x (enL (cyc (a::b::c::r)) ((u+v)/2))
    rw [qtK] at e2
    have e3:wnE (cyc (a::b::c::r)) (x,(u+v)/2)=wn l (x,(u+v)/2):=qut hr _
    rw [e3] at e2
    have ho:qmi l (x,(u+v)/2):=by
     refine qmb (E:=cyc l) (fun f hf=>⟨hym _ (qa0 hf).1,hym _ (qa0 hf).2⟩) (fun f hf=> ?_)
     simp only [enL,List.mem_map] at hf
     obtain ⟨g,hg,rfl⟩:=hf
     have hg':=(qee hr g).2 hg
     refine a3 (xat g.1 g.2 ((u+v)/2),σ*qhz g.1 g.2 ((u+v)/2)) ?_
     show _∈scL σ (enL (cyc (a::b::c::r)) ((u+v)/2))
     simp only [scL,enL,List.map_map,List.mem_map]
     exact ⟨g,hg',rfl⟩
    have:=hw _ ho
    rw [<-e2] at this
    exact this)
  have e4:Ct (clp x0 x1) ((xat a b ((u+v)/2),σ*qhz a b ((u+v)/2))::scL σ (enL (prs b (c::r++ [a])) ((u+v)/2)))=σ*Ct (clp x0 x1) (enL (cyc (a::b::c::r)) ((u+v)/2)):=
   qAt σ (clp x0 x1) (enL (cyc (a::b::c::r)) ((u+v)/2))
  rw [e4] at key
  have:=Rat.mul_pos (show 0<2*(v-u) by grind) key
  grind
 have hb:y0<u/\v<y1:=by rcases hin with ⟨i1,i2⟩|⟨i1,i2⟩<;>constructor<;>grind
 rw [qnw (m:=u) hb.1 (by grind),qnw (y0:=u) (m:=v) huv (by grind)]
 have p1:=part y0 u hb.1
 have p2:=part v y1 hb.2
 grind
theorem qeI.area_pos{l:List P2}(h:qeI l)(hl:lvl l=1):0<tot ar l:=by
 have:=h.area (σ:=1) (.inl rfl) (fun q hq=>by
  rcases h.sides hq with e|e
  ·rw [e,hl];show (0:Rat)<=1*1;grind
  ·rw [e,hl];show (0:Rat)<=1*0;grind)
 grind
theorem qeI.area_neg{l:List P2}(h:qeI l)(hl:lvl l=0):tot ar l<0:=by
 have:=h.area (σ:= -1) (.inr rfl) (fun q hq=>by
  rcases h.sides hq with e|e
  ·rw [e,hl];show (0:Rat)<= -1*0;grind
  ·rw [e,hl];show (0:Rat)<= -1* -1;grind)
 grind
theorem qeI.area_ne{l:List P2}(h:qeI l):tot ar l≠0:=by
 rcases h.lvl01 with e|e
 ·have:=h.area_pos e;grind
 ·have:=h.area_neg e;grind
theorem qeI.lvl_pos{l:List P2}(h:qeI l)(ha:0<tot ar l):lvl l=1:=by
 rcases h.lvl01 with e|e
 ·exact e
 ·have:=h.area_neg e;grind
def Apart(a b:List P2):Prop:= ∀e∈cyc a,∀f∈cyc b,Disj e.1 e.2 f.1 f.2
theorem Disj.symm{a b u v:P2}(h:Disj a b u v):Disj u v a b:=fun s t h1 h2 h3 h4 e=>h t s h3 h4 h1 h2 e.symm
theorem Apart.symm{a b:List P2}(h:Apart a b):Apart b a:=fun e he f hf=>(h f hf e he).symm
theorem Apart.off{a b:List P2}(h:Apart a b){e:P2×P2}(he:e∈cyc a){t:Rat}(t0:0<=t)(t1:t<=1):qmi b (lin e.1 e.2 t):=
 fun f hf s s0 s1 heq=>h e he f hf t s t0 t1 s0 s1 heq.symm
end Nw
end
