import Derived.Test.YtdjbkccoofcnjaaGreatNvC8
import Derived.Test.YtdjbkccoofcnjaaGreatNvE1
set_option linter.all false
set_option maxRecDepth 100000
section
namespace Go.Nv
open Go.Proofs Nw
def pRt:D→Option RD
 | .a [.v (.bool n),.v (.string s),.v (.string t)] =>match decide (s.size<1000∧t.size<1000) with|true=>some ⟨n,s,t⟩|false=>none
 |_=>none
theorem pR_eq{d:D}{r:RD}(h:pRt d=some r):d=rdD r∧Sz r:=by
 unfold pRt at h
 split at h
 ·split at h
  ·rename_i hd
   have:=of_decide_eq_true hd
   simp at h;subst h
   exact ⟨rfl,Nat.lt_of_lt_of_le this.1 (by omega),Nat.lt_of_lt_of_le this.2 (by omega)⟩
  ·simp at h
 ·simp at h
def in64(n:Int):Bool:=decide (-9223372036854775808≤n∧n≤9223372036854775807)
def orc1(g:FuncId)(a:D):Option (List D):=match g with
 |80=>match pRt a with|some r=>some [ratD (-r.val)] |none=>none
 |33=>match pRt a with|some r=>some [i64 (sgnI r.val)] |none=>none
 |32=>match pRt a with|some r=>some [i64 (okN r)] |none=>none
 |15=>match a with| .v (.int .i64 n)=>(match in64 n with|true=>some [ratD (n:Rat)] |false=>none)|_=>none
 |_=>none
def orc2(g:FuncId)(a b:D):Option (List D):=match g with
 |16=>match pRt a,pRt b with|some r,some s=>some [ratD (r.val+s.val)] |_,_=>none
 |17=>match pRt a,pRt b with|some r,some s=>some [ratD (r.val*s.val)] |_,_=>none
 |59=>match pRt a,pRt b with|some r,some s=>some [ratD (r.val-s.val)] |_,_=>none
 |36=>match pRt a,pRt b with|some r,some s=>some [ratD (r.val/s.val),i64 (eQ s.val)] |_,_=>none
 |34=>match pRt a,pRt b with|some r,some s=>some [i64 (cmpI r.val s.val)] |_,_=>none
 |14=>match a,b with| .v (.int .i64 n),.v (.int .i64 m)=>(match in64 n&&in64 m with|true=>some [ratD (Rat.divInt n m),i64 (eN m)] |false=>none)|_,_=>none
 |_=>none
def orc(g:FuncId)(ds:List D):Option (List D):=match ds with
 | [a] =>orc1 g a
 | [a,b] =>orc2 g a b
 |_=>none
theorem orc1_sound{g:FuncId}{a:D}{res:List D}(h:orc1 g a=some res):Fun Tryz.prog g [a] res:=by
 unfold orc1 at h
 split at h
 ·split at h
  ·rename_i r hr;obtain ⟨rfl,hs⟩:=pR_eq hr;simp at h;subst h;exact neg_r _ hs
  ·simp at h
 ·split at h
  ·rename_i r hr;obtain ⟨rfl,hs⟩:=pR_eq hr;simp at h;subst h;exact sign_r _ hs
  ·simp at h
 ·split at h
  ·rename_i r hr;obtain ⟨rfl,hs⟩:=pR_eq hr;simp at h;subst h;exact check_r _ hs
  ·simp at h
 ·split at h
  ·split at h
   ·rename_i n hn;simp at h;subst h;exact of_r _ (of_decide_eq_true hn)
   ·simp at h
  ·simp at h
 ·simp at h
theorem orc2_sound{g:FuncId}{a b:D}{res:List D}(h:orc2 g a b=some res):Fun Tryz.prog g [a,b] res:=by
 unfold orc2 at h
 split at h
 ·split at h
  ·rename_i r s hr hs;obtain ⟨rfl,h1⟩:=pR_eq hr;obtain ⟨rfl,h2⟩:=pR_eq hs;simp at h;subst h;exact add_r _ _ h1 h2
  ·simp at h
 ·split at h
  ·rename_i r s hr hs;obtain ⟨rfl,h1⟩:=pR_eq hr;obtain ⟨rfl,h2⟩:=pR_eq hs;simp at h;subst h;exact mul_r _ _ h1 h2
  ·simp at h
 ·split at h
  ·rename_i r s hr hs;obtain ⟨rfl,h1⟩:=pR_eq hr;obtain ⟨rfl,h2⟩:=pR_eq hs;simp at h;subst h;exact sub_r _ _ h1 h2
  ·simp at h
 ·split at h
  ·rename_i r s hr hs;obtain ⟨rfl,h1⟩:=pR_eq hr;obtain ⟨rfl,h2⟩:=pR_eq hs;simp at h;subst h;exact quo_r _ _ h1 h2
  ·simp at h
 ·split at h
  ·rename_i r s hr hs;obtain ⟨rfl,h1⟩:=pR_eq hr;obtain ⟨rfl,h2⟩:=pR_eq hs;simp at h;subst h;exact compare_r _ _ h1 h2
  ·simp at h
 ·split at h
  ·split at h
   ·rename_i n m hn
    rw [Bool.and_eq_true] at hn
    simp at h;subst h;exact ratio_r _ _ (of_decide_eq_true hn.1) (of_decide_eq_true hn.2)
   ·simp at h
  ·simp at h
 ·simp at h
theorem orc_sound{g:FuncId}{ds res:List D}(h:orc g ds=some res):Fun Tryz.prog g ds res:=by
 unfold orc at h
 split at h
 ·exact orc1_sound h
 ·exact orc2_sound h
 ·simp at h
def muL:List (List Nat):= [[], [], [], [13,16,17,21], [15,17], [13,15,18,20], [], [13,14,16,17,18,20,24], [], [13], [], [], [1,6], [10], [4], [2], [4], [4], [], [], [10,12,14,15], [13], [8,10], [8], [], [4,7,8,11,12,13,14], [5,6], [16,19], [10], [13], [], [], [], [], [], [4], [4,6,7], [2,4], [], [], [], [10,11,12,13,15], [10,11,12,14], [9,10,13], [], [], [4], [4], [], [4], [], [], [], [4], [4], [5], [5,7], [3,4,7,8], [4], [3,4], [2,3,4], [2], [2,3,4,5,7,8,10], [8], [8], [4,8], [4], [4], [4], [8], [4], [], [], [], [], [4,7,10,11], [8,11,12], [6,7], [], [2], [1,2], [6], [4,5,7], [], [12], [], [], [4,11,12,13,14], [2,3], [4,6,7,8], [5,7], [], [2,3], [], [4,5], [2,3], [2,3], [], [], [], [6], [2,3,4,5,6], [], [], [], [], [7], [], [], [], [3,4], [6], [], [3], [], [2], [4], [6,9], [3], [], [5], [], [4], [], [5,6,7,8], [], [4,7,8,9,11], [7,8,9,10,11], [3], [3], [3], [3], [2], [4], [], [4], [4,5,10,11], [], [3], [], [13], [19], [], [12], [16], [], [], [], [11,12,13,14], [4], [1,2], [4,5,8,9,11,13], [8,9], [8,9], [6], [], [3], [3], [3], [3], [4], [], [9], [], [], [16], [], [], [], [], [], [7], [], [4,5], [2,3,4,5], [2,3,4,5,6], [2,3,4], [2,3,4], [4], [4], [2], [4,11,12,13,14], [], [4], [4], [], [4,5], [3], [], [], [], [7], [], [], [], [2,3], [], [2,6,7], [4], [5], [2,3,4,5], [2], [4], [6], [2,3,4], [5], [7], [5], [6,8,9], [], [], [], [], [], [], [], [4,5,6,7], [], [], [], [], [], [7,8], [5,7,8], [7,8], [9,10,12,17], [], [], [52], [3,4], [], [], [], [2,3], [], [], [], [], [], [2,3,4,7,8,9,10,11,12,14], [], [], [], [8,9,10], [], [], [], [4,6], [], [7,8,9,10], [], [], [1,2], [4], [2,3,4,5,7,8], [2], [], [16], [], [11], [16,69], [], [4], [3,4,5], [], [], [9], [11], [], [], [], [], [], [], [], [], [], [2], [3], [4], [], [], [], [4,7], [], [], [], [], [2,3,4], [], [], [4,6], [4,5], [], [], [], [], [11], [], [12], [], [10], [], [2], [4], [4], [], [], [], [], [4], [2], [], [4], [4,5], [], [6,32], [], [4], [], [7,8], [], [], [], [], [], [], [], [], [], [], [], [], [], [2,3,4,6,7,8,9,10,12,14,15,16], [2], [], [4,6,7], [], [], [], [], [2], [4], [], [], [], [], [], [], [], [2], [], [4], [4], [], [], [9], [11], [], [], [], [], [], [], [], [], [], [], [], [], [], [], [], [], [], [], [], [], [], [], [], [], [], [], [], []]
def memN(t:Nat):List Nat→Bool
 | [] =>false
 |x::xs=>match Nat.beq x t with|true=>true|false=>memN t xs
def muE(g:FuncId)(t:Tmp):Bool:=match lkO muL g with|some l=>memN t l|none=>false
noncomputable def ev0:Ev:=⟨Tryz.prog,tbl,Tryz.prog.funcs.toList,muE,orc,fun t=>Nat.beq t 164⟩
end Go.Nv
end
