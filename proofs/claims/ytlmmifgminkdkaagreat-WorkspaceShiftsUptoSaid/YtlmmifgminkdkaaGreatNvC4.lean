import Derived.Test.YtlmmifgminkdkaaGreatNvC3
import Derived.Test.YtlmmifgminkdkaaGreatNvN6
set_option linter.all false
set_option maxRecDepth 100000
section
namespace Go.Nv
open Go.Proofs Nw
theorem Q.mk{q:Rat}{n:Nat}(h:Bd n q)(hn:n<90000000000):Q q:=⟨n,hn,h⟩
theorem qtA{x y t:Rat}(hx:Q x)(hy:Q y)(ht:Q t):Fun Tryz.prog 361 [ptD x y,qas t] [ptD (x*t) (y*t)] :=by
 refine qac (fun t=>t==4) mixed tOk Tryz.func361 rfl rfl ?_
 conv=>whnf
 refine qaa rfl rfl (qm6 (qth hx ht) (qth hy ht)) ?_
 conv=>whnf
 refine ⟨?_,trivial⟩
 conv=>whnf
 exact ⟨rfl,rfl,rfl,rfl,rfl,rfl,trivial⟩
theorem qEp{x y u v t:Rat}{n m:Nat}(hx:Bd n x)(hy:Bd n y)(hu:Bd n u)(hv:Bd n v)(ht:Bd m t)(hn:n<10000000000)(hm:m<10000000000):
  Fun Tryz.prog 388 [ptD x y,ptD u v,qas t] [ptD (x+(u-x)*t) (y+(v-y)*t)] :=by
 refine qac (fun t=>t==6) mixed tOk Tryz.func388 rfl rfl ?_
 conv=>whnf
 refine qab (qi4 (.mk hu (by omega)) (.mk hv (by omega)) (.mk hx (by omega)) (.mk hy (by omega))) ?_
 conv=>whnf
 refine qab (qtA (.mk (hu.sub hx) (by omega)) (.mk (hv.sub hy) (by omega)) (.mk ht (by omega))) ?_
 conv=>whnf
 refine qab (qnn (.mk hx (by omega)) (.mk hy (by omega)) (.mk ((hu.sub hx).mul ht) (by omega)) (.mk ((hv.sub hy).mul ht) (by omega))) ?_
 conv=>whnf
 refine qad (by kernel_rfl) ?_
 conv=>whnf
 refine ⟨?_,trivial⟩
 conv=>whnf
 exact ⟨rfl,rfl,rfl,rfl,rfl,rfl,trivial⟩
@[irreducible] def okP(r s:RD):Int:=if canon r.val=r/\canon s.val=s then 0 else 1
theorem qcn{r s:RD}:okP r s=0↔canon r.val=r/\canon s.val=s:=by
 unfold okP;split<;>simp_all
theorem qc8{r:RD}:okN r=0↔canon r.val=r:=by
 unfold okN;split<;>simp_all
theorem qdU(r s:RD)(hr:Sz r)(hs:Sz s):Fun Tryz.prog 30 [ptR r s] [i64 (okP r s)] :=by
 refine qac (fun t=>t==4) mixed tOk Tryz.func30 rfl rfl ?_
 conv=>whnf
 refine qiG 3 (fun t=>t==4) mixed tOk ?_
 conv=>whnf
 refine qaI (by show (0:Int)<((2:Nat):Int);omega) ?_
 conv=>whnf
 refine qae (rdD r) rfl (by omega) (by intro x hx;simp at hx;rcases hx with rfl|rfl<;>rfl) ?_
 conv=>whnf
 refine qaa rfl rfl (qlr r hr) ?_
 conv=>whnf
 refine qav (fun h=> ?_) (fun h=> ?_)
 ·conv=>whnf
  refine ⟨?_,trivial⟩
  conv=>whnf
  unfold okP;rw [if_neg (fun h'=>h (qc8.2 h'.1))]
 ·conv=>whnf
  refine qak (by omega) ?_
  conv=>whnf
  refine qaI (by show (0:Int)+1<((2:Nat):Int);omega) ?_
  conv=>whnf
  refine qae (rdD s) rfl (by omega) (by intro x hx;simp at hx;rcases hx with rfl|rfl<;>rfl) ?_
  conv=>whnf
  refine qaa rfl rfl (qlr s hs) ?_
  conv=>whnf
  refine qav (fun h2=> ?_) (fun h2=> ?_)
  ·conv=>whnf
   refine ⟨?_,trivial⟩
   conv=>whnf
   unfold okP;rw [if_neg (fun h'=>h2 (qc8.2 h'.2))]
  ·conv=>whnf
   refine qak (by omega) ?_
   conv=>whnf
   refine qaU (by show¬(0:Int)+1+1<((2:Nat):Int);omega) ?_
   conv=>whnf
   refine ⟨?_,trivial⟩
   conv=>whnf
   exact (qcn.2 ⟨qc8.1 h,qc8.1 h2⟩).symm
abbrev quD(x y u v:Rat):D:= .a [.v (.bool (qd4 x)),.v (.string (qeo x)),.v (.string (qeg x)),.v (.bool (qd4 y)),.v (.string (qeo y)),.v (.string (qeg y)),
 .v (.bool (qd4 u)),.v (.string (qeo u)),.v (.string (qeg u)),.v (.bool (qd4 v)),.v (.string (qeo v)),.v (.string (qeg v))]
@[irreducible] def sgE(x y u v:Rat):Int:=if x=u/\y=v then 12 else 0
theorem qbB{p q:Rat}:qdr p q=0↔p=q:=by rw [qd6];exact qq3
theorem qnV{x y u v:Rat}(hx:Q x)(hy:Q y)(hu:Q u)(hv:Q v):Fun Tryz.prog 385 [quD x y u v] [i64 (sgE x y u v)] :=by
 refine qac (fun t=>false) mixed tOk Tryz.func385 rfl rfl ?_
 conv=>whnf
 refine qaa rfl rfl (qi8 hx hy hu hv) ?_
 conv=>whnf
 have e:(if qdr x u=0 then qdr y v else qdr x u)=0↔x=u/\y=v:=by
  split
  ·rename_i h;rw [qbB] at h;rw [qbB];exact ⟨fun h2=>⟨h,h2⟩,fun h2=>h2.2⟩
  ·rename_i h;exact ⟨fun h2=>absurd h2 h,fun h2=>absurd (qbB.2 h2.1) h⟩
 refine qa4 (fun h=> ?_) (fun h=> ?_)
 ·conv=>whnf
  refine ⟨?_,trivial⟩
  conv=>whnf
  unfold sgE;rw [if_pos (e.1 h)]
 ·conv=>whnf
  refine ⟨?_,trivial⟩
  conv=>whnf
  unfold sgE;rw [if_neg (fun h'=>h (e.2 h'))]
end Go.Nv
end
