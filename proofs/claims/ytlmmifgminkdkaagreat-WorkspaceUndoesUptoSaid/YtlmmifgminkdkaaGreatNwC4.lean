import Derived.Test.YtlmmifgminkdkaaGreatNwC3
import Derived.Test.YtlmmifgminkdkaaGreatNwN6
set_option linter.all false
set_option maxRecDepth 100000
section
namespace Go.Nv
open Go.Proofs Nw
theorem Q.mk{q:Rat}{n:Nat}(h:Bd n q)(hn:n<90000000000):Q q:=⟨n,hn,h⟩
theorem qsQ{x y t:Rat}(hx:Q x)(hy:Q y)(ht:Q t):Fun Tryz.prog 361 [ptD x y,qar t] [ptD (x*t) (y*t)] :=by
 refine qac (fun t=>t==4) mixed tOk Tryz.func361 rfl rfl ?_
 conv=>whnf
 refine qaa rfl rfl (qm2 (qru hx ht) (qru hy ht)) ?_
 conv=>whnf
 refine ⟨?_,trivial⟩
 conv=>whnf
 exact ⟨rfl,rfl,rfl,rfl,rfl,rfl,trivial⟩
theorem qCa{x y u v t:Rat}{n m:Nat}(hx:Bd n x)(hy:Bd n y)(hu:Bd n u)(hv:Bd n v)(ht:Bd m t)(hn:n<10000000000)(hm:m<10000000000):
  Fun Tryz.prog 388 [ptD x y,ptD u v,qar t] [ptD (x+(u-x)*t) (y+(v-y)*t)] :=by
 refine qac (fun t=>t==6) mixed tOk Tryz.func388 rfl rfl ?_
 conv=>whnf
 refine qab (qj8 (.mk hu (by omega)) (.mk hv (by omega)) (.mk hx (by omega)) (.mk hy (by omega))) ?_
 conv=>whnf
 refine qab (qsQ (.mk (hu.sub hx) (by omega)) (.mk (hv.sub hy) (by omega)) (.mk ht (by omega))) ?_
 conv=>whnf
 refine qab (qtZ (.mk hx (by omega)) (.mk hy (by omega)) (.mk ((hu.sub hx).mul ht) (by omega)) (.mk ((hv.sub hy).mul ht) (by omega))) ?_
 conv=>whnf
 refine qad (by kernel_rfl) ?_
 conv=>whnf
 refine ⟨?_,trivial⟩
 conv=>whnf
 exact ⟨rfl,rfl,rfl,rfl,rfl,rfl,trivial⟩
@[irreducible] def okP(r s:RD):Int:=if canon r.val=r/\canon s.val=s then 0 else 1
theorem qeh{r s:RD}:okP r s=0↔canon r.val=r/\canon s.val=s:=by
 unfold okP;split<;>simp_all
theorem qcS{r:RD}:okN r=0↔canon r.val=r:=by
 unfold okN;split<;>simp_all
theorem qgP(r s:RD)(hr:Sz r)(hs:Sz s):Fun Tryz.prog 30 [ptR r s] [i64 (okP r s)] :=by
 refine qac (fun t=>t==4) mixed tOk Tryz.func30 rfl rfl ?_
 conv=>whnf
 refine qzC 3 (fun t=>t==4) mixed tOk ?_
 conv=>whnf
 refine qaT (by show (0:Int)<((2:Nat):Int);omega) ?_
 conv=>whnf
 refine qae (rdD r) rfl (by omega) (by intro x hx;simp at hx;rcases hx with rfl|rfl<;>rfl) ?_
 conv=>whnf
 refine qaa rfl rfl (qlM r hr) ?_
 conv=>whnf
 refine qat (fun h=> ?_) (fun h=> ?_)
 ·conv=>whnf
  refine ⟨?_,trivial⟩
  conv=>whnf
  unfold okP;rw [if_neg (fun h'=>h (qcS.2 h'.1))]
 ·conv=>whnf
  refine qak (by omega) ?_
  conv=>whnf
  refine qaT (by show (0:Int)+1<((2:Nat):Int);omega) ?_
  conv=>whnf
  refine qae (rdD s) rfl (by omega) (by intro x hx;simp at hx;rcases hx with rfl|rfl<;>rfl) ?_
  conv=>whnf
  refine qaa rfl rfl (qlM s hs) ?_
  conv=>whnf
  refine qat (fun h2=> ?_) (fun h2=> ?_)
  ·conv=>whnf
   refine ⟨?_,trivial⟩
   conv=>whnf
   unfold okP;rw [if_neg (fun h'=>h2 (qcS.2 h'.2))]
  ·conv=>whnf
   refine qak (by omega) ?_
   conv=>whnf
   refine qbF (by show¬(0:Int)+1+1<((2:Nat):Int);omega) ?_
   conv=>whnf
   refine ⟨?_,trivial⟩
   conv=>whnf
   exact (qeh.2 ⟨qcS.1 h,qcS.1 h2⟩).symm
abbrev quD(x y u v:Rat):D:= .a [.v (.bool (qfH x)),.v (.string (qfI x)),.v (.string (qf8 x)),.v (.bool (qfH y)),.v (.string (qfI y)),.v (.string (qf8 y)),
 .v (.bool (qfH u)),.v (.string (qfI u)),.v (.string (qf8 u)),.v (.bool (qfH v)),.v (.string (qfI v)),.v (.string (qf8 v))]
@[irreducible] def sgE(x y u v:Rat):Int:=if x=u/\y=v then 12 else 0
theorem qbt{p q:Rat}:qdo p q=0↔p=q:=by rw [qd4];exact qpJ
theorem qmj{x y u v:Rat}(hx:Q x)(hy:Q y)(hu:Q u)(hv:Q v):Fun Tryz.prog 385 [quD x y u v] [i64 (sgE x y u v)] :=by
 refine qac (fun t=>false) mixed tOk Tryz.func385 rfl rfl ?_
 conv=>whnf
 refine qaa rfl rfl (qio hx hy hu hv) ?_
 conv=>whnf
 have e:(if qdo x u=0 then qdo y v else qdo x u)=0↔x=u/\y=v:=by
  split
  ·rename_i h;rw [qbt] at h;rw [qbt];exact ⟨fun h2=>⟨h,h2⟩,fun h2=>h2.2⟩
  ·rename_i h;exact ⟨fun h2=>absurd h2 h,fun h2=>absurd (qbt.2 h2.1) h⟩
 refine qaU (fun h=> ?_) (fun h=> ?_)
 ·conv=>whnf
  refine ⟨?_,trivial⟩
  conv=>whnf
  unfold sgE;rw [if_pos (e.1 h)]
 ·conv=>whnf
  refine ⟨?_,trivial⟩
  conv=>whnf
  unfold sgE;rw [if_neg (fun h'=>h (e.2 h'))]
end Go.Nv
end
