import Derived.Test.YtdjbkccoofcnjaaGreatNvD16
import Derived.Test.YtdjbkccoofcnjaaGreatNvD6
set_option linter.all false
set_option maxRecDepth 100000
section
namespace Go.Nv
open Go.Proofs Nw
theorem Ord.tr{hs:List (List P2)}(h:Ord hs)(hr: ∀x∈hs,RgOk x)(v:P2):Ord (trH v hs):=by
 intro i hi
 have hl:(trH v hs).length=hs.length:=List.length_map ..
 rw [hl] at hi
 have h1:=h i hi
 have g: ∀j,j<hs.length→(trH v hs).getD j [] =trL v (hs.getD j []):=fun j hj=>by
  rw [List.getD_eq_getElem?_getD,List.getD_eq_getElem?_getD]
  unfold trH
  rw [List.getElem?_map,List.getElem?_eq_getElem hj];rfl
 have p: ∀j,j<hs.length→0<(hs.getD j []).length:=fun j hj=>by
  rw [List.getD_eq_getElem?_getD,List.getElem?_eq_getElem hj]
  have:=(hr _ (List.getElem_mem hj)).len
  simp only [Option.getD_some];omega
 rw [g i (by omega),g (i+1) hi,tr_ix (p i (by omega)),tr_ix (p (i+1) hi),tr_cmP]
 exact h1
def pw(f:P2→Bool)(e:P2×P2):Bool:=f e.1 !=f e.2
theorem prs_par(f:P2→Bool)(a:P2): ∀(l:List P2) (d:P2),((prs d (l++ [a])).countP (pw f))%2=if (f d !=f a)=true then 1 else 0
 | [],d=>by
  simp only [List.nil_append,prs,List.countP_cons,List.countP_nil]
  unfold pw
  split<;>rfl
 |b::l,d=>by
  have ih:=prs_par f a l b
  simp only [List.cons_append,prs,List.countP_cons]
  unfold pw at ih ⊢
  simp only at ih ⊢
  revert ih
  cases f d<;>cases f a<;>cases f b<;>simp<;>omega
theorem cyc_even(f:P2→Bool)(l:List P2):((cyc l).countP (pw f))%2=0:=by
 cases l with
 |nil=>rfl
 |cons a l=>
  have:=prs_par f a l a
  rw [if_neg (by simp)] at this
  exact this
theorem edges_even(f:P2→Bool)(o:List P2): ∀hs:List (List P2),((cyc o++hs.flatMap cyc).countP (pw f))%2=0:=by
 have key: ∀hs:List (List P2),((hs.flatMap cyc).countP (pw f))%2=0:=by
  intro hs
  induction hs with
  |nil=>rfl
  |cons h hs ih=>
   rw [List.flatMap_cons,List.countP_append]
   have:=cyc_even f h
   omega
 intro hs
 rw [List.countP_append]
 have:=cyc_even f o
 have:=key hs
 omega
theorem crL_even(y:Rat)(o:List P2)(hs:List (List P2)):(crL y (cyc o++hs.flatMap cyc)).length%2=0:=by
 unfold crL
 rw [List.length_map, ←List.countP_eq_length_filter]
 exact edges_even (fun p=>decide (y<p.2)) o hs
structure SpW (l:List P2):Prop where
 a: ∀p∈l,p.1<p.2
 b:l.Pairwise fun p q=>p.2<q.1
theorem SpW.ok{l:List P2}(h:SpW l):SpOk l:=fun i hi=>⟨h.a _ (List.getElem_mem hi),fun h'=>List.pairwise_iff_getElem.1 h.b i (i+1) hi h' (by omega)⟩
end Go.Nv
end
