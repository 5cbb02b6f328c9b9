import Derived.Test.YtlmmifgminkdkaaGreatNxA1
import Derived.Test.YtlmmifgminkdkaaGreatNxD6
import Derived.Test.YtlmmifgminkdkaaGreatNxE1
import Derived.Test.YtlmmifgminkdkaaGreatNxD10
set_option linter.all false
set_option maxRecDepth 100000
section
namespace Go.Nv
open Go.Proofs Nw Go.RowKit
abbrev oA:List P2:= [(2,2),(4,2),(4,4),(2,4)]
abbrev oB:List P2:= [(3,3),(9,3),(3,6)]
def pPt:D->Option P2
 | .a [.v (.bool a),.v (.string b),.v (.string c),.v (.bool d),.v (.string e),.v (.string f)] =>some ((⟨a,b,c⟩:RD).val,(⟨d,e,f⟩:RD).val)
 |_=>none
def qBv(q:P2):Bool:=Nat.ble q.1.num.natAbs (256^3)&&(Nat.ble q.1.den (256^3)&&(Nat.ble q.2.num.natAbs (256^3)&&Nat.ble q.2.den (256^3)))
theorem qo2{q:P2}(h:qBv q=true):BP 3 q:=by
 unfold qBv at h
 simp only [Bool.and_eq_true] at h
 exact ⟨⟨Nat.le_of_ble_eq_true h.1,Nat.le_of_ble_eq_true h.2.1⟩,Nat.le_of_ble_eq_true h.2.2.1,Nat.le_of_ble_eq_true h.2.2.2⟩
noncomputable def qBo(o:List P2)(p:D):Option (List D):=match pPt p with
 |some q=>match qmk 8 (pD q) p&&qBv q with
  |true=>some [i64 (whV o [] q),i64 0]
  |false=>none
 |none=>none
theorem qes{o:List P2}(hck:Fun Tryz.prog 73 [.a [.l (pL o),.l []]] [i64 0])(ho:o.all qBv=true)(hl:o.length<=100){p:D}{res:List D}(h:qBo o p=some res):Fun Tryz.prog 56 [.a [.l (pL o),.l []],p] res:=by
 unfold qBo at h
 split at h
 ·rename_i q hq
  split at h
  ·rename_i hb
   rw [Bool.and_eq_true] at hb
   have e:=qb6 8 _ _ hb.1
   simp at h;subst h
   rw [<-e]
   exact qqk (n:=3) (hs:= []) hck (fun p hp=>qo2 (List.all_eq_true.1 ho p hp)) hl (by simp) (qo2 hb.2) (by omega) (by simp)
  ·simp at h
 ·simp at h
def qp4:List (D×List D)->D->Option (List D)
 | [],_=>none
 |(k,r)::t,x=>match qmk 8 k x with|true=>some r|false=>qp4 t x
theorem qkn: ∀{t:List (D×List D)} {x:D} {r:List D},qp4 t x=some r->(x,r)∈t
 | [],x,r,h=>by simp [qp4] at h
 |(k,r')::t,x,r,h=>by
  unfold qp4 at h
  split at h
  ·rename_i he
   simp at h;subst h
   rw [<-qb6 8 _ _ he];simp
  ·exact List.mem_cons_of_mem _ (qkn h)
noncomputable def qxQ(kn:List (FuncId×List D×List D))(tb:List (FuncId×D×List (D×List D)))(g:FuncId)(ds:List D):Option (List D):=match Nat.beq g 56 with
 |true=>match ds with
  | [a,p] =>match qmk 8 qv2 a with
   |true=>qBo oA p
   |false=>match qmk 8 qwz a with
    |true=>qBo oB p
    |false=>none
  |_=>none
 |false=>match tb with
  | [] =>qta kn g ds
  |(f,s,t)::tb=>match Nat.beq f g with
   |true=>match ds with
    | [s',x] =>match qmk 8 s s' with
     |true=>qp4 t x
     |false=>none
    |_=>none
   |false=>qxQ kn tb g ds
theorem qiy(hA:Fun Tryz.prog 73 [qv2] [i64 0])(hB:Fun Tryz.prog 73 [qwz] [i64 0]){kn:List (FuncId×List D×List D)}(hk: ∀k∈kn,Fun Tryz.prog k.1 k.2.1 k.2.2):
  ∀{tb:List (FuncId×D×List (D×List D))} {g:FuncId} {ds res:List D},(∀t∈tb,∀x∈t.2.2,Fun Tryz.prog t.1 [t.2.1,x.1] x.2)->qxQ kn tb g ds=some res->Fun Tryz.prog g ds res:=by
 intro tb
 induction tb with
 |nil=>
  intro g ds res ht h
  unfold qxQ at h
  split at h
  ·rename_i hg
   have hg:=Nat.eq_of_beq_eq_true hg
   subst hg
   split at h
   ·split at h
    ·rename_i ha
     rw [<-qb6 8 _ _ ha]
     exact qes (o:=oA) hA (by decide+kernel) (by simp) h
    ·split at h
     ·rename_i ha
      rw [<-qb6 8 _ _ ha]
      exact qes (o:=oB) hB (by decide+kernel) (by simp) h
     ·simp at h
   ·simp at h
  ·exact qcj hk h
 |cons t tb ih=>
  obtain ⟨f,s,t⟩:=t
  intro g ds res ht h
  unfold qxQ at h
  split at h
  ·rename_i hg
   have hg:=Nat.eq_of_beq_eq_true hg
   subst hg
   split at h
   ·split at h
    ·rename_i ha
     rw [<-qb6 8 _ _ ha]
     exact qes (o:=oA) hA (by decide+kernel) (by simp) h
    ·split at h
     ·rename_i ha
      rw [<-qb6 8 _ _ ha]
      exact qes (o:=oB) hB (by decide+kernel) (by simp) h
     ·simp at h
   ·simp at h
  ·simp only at h
   split at h
   ·rename_i hf
    have hf:=Nat.eq_of_beq_eq_true hf
    subst hf
    split at h
    ·split at h
     ·rename_i hs
      rw [<-qb6 8 _ _ hs]
      exact ht (_,s,t) (by simp) _ (qkn h)
     ·simp at h
    ·simp at h
   ·exact ih (fun t' ht'=>ht t' (by simp [ht'])) h
theorem qxM{E:Ev}(hP:E.P=Tryz.prog)(hTb:E.T=tbl)(hf:E.fns=Tryz.prog.funcs.toList)(ho: ∀g ds res,E.orc g ds=some res->Fun Tryz.prog g ds res)(hsl:qlQ E){n:Nat}{g:FuncId}{ds res:List D}(h:evF E (evC E n) g ds=some res):Fun Tryz.prog g ds (qbr (nlD 8) res):=by
 have hm:E.P.follows .mixedOrders=true:=by rw [hP];exact mixed
 have hT:qcG E.P E.T:=by rw [hP,hTb];exact tOk
 have hfn: ∀g fn,lkO E.fns g=some fn->E.P.funcs[g]? =some fn:=fun g fn h=>by rw [hf] at h;rw [hP, <-Array.getElem?_toList, <-qb7];exact h
 have horc: ∀g ds res,E.orc g ds=some res->Fun E.P g ds res:=fun g ds res h=>by rw [hP];exact ho g ds res h
 rw [<-hP]
 exact qdt hm hT hfn horc (fun mu c st K r h=>(qg9 hsl hm hT hfn horc n mu c st K r h).1) h
theorem qFh{E:Ev}(hP:E.P=Tryz.prog)(hTb:E.T=tbl)(hf:E.fns=Tryz.prog.funcs.toList)(ho: ∀g ds res,E.orc g ds=some res->Fun Tryz.prog g ds res)(hsl:qlQ E){n:Nat}{g:FuncId}{e:TypeId}{size bytes:Nat}{xs ds ys:List D}(hnp:qgm (flat ys)=true)(h:qx0 E (evC E n) g e size bytes xs ds=some ys):qnt Tryz.prog g e size ds xs ys:=by
 have hm:E.P.follows .mixedOrders=true:=by rw [hP];exact mixed
 have hT:qcG E.P E.T:=by rw [hP,hTb];exact tOk
 have hfn: ∀g fn,lkO E.fns g=some fn->E.P.funcs[g]? =some fn:=fun g fn h=>by rw [hf] at h;rw [hP, <-Array.getElem?_toList, <-qb7];exact h
 have horc: ∀g ds res,E.orc g ds=some res->Fun E.P g ds res:=fun g ds res h=>by rw [hP];exact ho g ds res h
 rw [<-hP]
 exact qnW hm hT hfn (fun mu c st K r h=>(qg9 hsl hm hT hfn horc n mu c st K r h).1) hnp h
theorem chA:Fun Tryz.prog 73 [qv2] [i64 0] :=qrI (qff (E:=ev0) tOk) qFM
theorem chB:Fun Tryz.prog 73 [qwz] [i64 0] :=qrI (qff (E:=ev0) tOk) qGb
theorem qt2: ∀k∈kn1,Fun Tryz.prog k.1 k.2.1 k.2.2:=by
 intro k hk
 simp only [kn1,List.mem_cons,List.not_mem_nil,or_false] at hk
 rcases hk with rfl|rfl
 ·exact chA
 ·exact chB
theorem qdm{n:Nat}{g:FuncId}{ds res:List D}(h:evF ev1 (evC ev1 n) g ds=some res):Fun Tryz.prog g ds (qbr (nlD 8) res):=
 qxM rfl rfl rfl (fun g ds res h=>qcj qt2 h) (qff (E:=ev1) tOk) h
theorem qDK{n:Nat}{g:FuncId}{e:TypeId}{size bytes:Nat}{xs ds ys:List D}(hnp:qgm (flat ys)=true)(h:qx0 ev1 (evC ev1 n) g e size bytes xs ds=some ys):qnt Tryz.prog g e size ds xs ys:=
 qFh rfl rfl rfl (fun g ds res h=>qcj qt2 h) (qff (E:=ev1) tOk) hnp h
theorem qEM:Fun Tryz.prog 26 [exD] [i64 0] :=qdm qF6
def qEL:List (CeT×(P2×List Int×Rat)):= [((0,0,0),((0,0), [],0)),((0,0,1),((0,8), [],0)),((1,0,0),((0,4), [],0)),((2,0,0),((1,0), [],0)),((2,0,1),((1,8), [],0)),((3,0,0),((1,4), [],16)),((0,1,0),((2,0), [],0)),((0,1,1),((2,2), [],0)),((0,1,2),((2,4), [],0)),((0,1,3),((2,8), [],0)),((1,1,0),((2,1), [],0)),((1,1,1),((2,3), [],0)),((1,1,2),((2,6), [],0)),((2,1,0),(((5/2),0), [],0)),((2,1,1),(((5/2),2), [],0)),((2,1,2),(((5/2),4), [],0)),((2,1,3),(((5/2),8), [],0)),((3,1,0),(((5/2),1), [],2)),((3,1,1),(((5/2),3), [0],2)),((3,1,2),(((5/2),6), [],4)),((0,2,0),((3,0), [],0)),((0,2,1),((3,2), [],0)),((0,2,2),((3,3), [0],0)),((0,2,3),((3,4), [],0)),((0,2,4),((3,6), [],0)),((0,2,5),((3,8), [],0)),((1,2,0),((3,1), [],0)),((1,2,1),((3,(5/2)), [0],0)),((1,2,2),((3,(7/2)), [0],0)),((1,2,3),((3,5), [],0)),((1,2,4),((3,7), [],0)),((2,2,0),(((7/2),0), [],0)),((2,2,1),(((7/2),2), [],0)),((2,2,2),(((7/2),3), [0],0)),((2,2,3),(((7/2),4), [1],0)),((2,2,4),(((7/2),(23/4)), [],0)),((2,2,5),(((7/2),8), [],0)),((3,2,0),(((7/2),1), [],2)),((3,2,1),(((7/2),(5/2)), [0],1)),((3,2,2),(((7/2),(7/2)), [0,1],1)),((3,2,3),(((7/2),(39/8)), [1],(7/4))),((3,2,4),(((7/2),(55/8)), [],(9/4))),((0,3,0),((4,0), [],0)),((0,3,1),((4,2), [],0)),((0,3,2),((4,3), [],0)),((0,3,3),((4,4), [1],0)),((0,3,4),((4,(11/2)), [],0)),((0,3,5),((4,8), [],0)),((1,3,0),((4,1), [],0)),((1,3,1),((4,(5/2)), [],0)),((1,3,2),((4,(7/2)), [1],0)),((1,3,3),((4,(19/4)), [1],0)),((1,3,4),((4,(27/4)), [],0)),((2,3,0),(((13/2),0), [],0)),((2,3,1),(((13/2),3), [],0)),((2,3,2),(((13/2),(17/4)), [],0)),((2,3,3),(((13/2),8), [],0)),((3,3,0),(((13/2),(3/2)), [],15)),((3,3,1),(((13/2),(29/8)), [1],(25/4))),((3,3,2),(((13/2),(49/8)), [],(75/4))),((0,4,0),((9,0), [],0)),((0,4,1),((9,3), [],0)),((0,4,2),((9,8), [],0)),((1,4,0),((9,(3/2)), [],0)),((1,4,1),((9,(11/2)), [],0)),((2,4,0),(((19/2),0), [],0)),((2,4,1),(((19/2),8), [],0)),((3,4,0),(((19/2),4), [],8)),((0,5,0),((10,0), [],0)),((0,5,1),((10,8), [],0)),((1,5,0),((10,4), [],0))]
def lk3(c:CeT):P2×List Int×Rat:=(qEL.lookup c).getD ((0,0), [],0)
def csL:List CeT:=qEL.map (·.1)
def ckR(r:R)(a:D):Bool:=match r with
 |some [p,e] =>qmk 8 a p&&qmk 8 (i64 0) e
 |_=>false
theorem quq{r:R}{a:D}(h:ckR r a=true):r=some [a,i64 0] :=by
 unfold ckR at h
 split at h
 ·rw [Bool.and_eq_true] at h
  rw [<-qb6 8 _ _ h.1, <-qb6 8 _ _ h.2]
 ·simp at h
noncomputable def cB(c:CeT):Bool:=ckR (evF ev1 (evC ev1 20000) 260 [qsN,ceD c]) (pD (lk3 c).1)
noncomputable def arB(c:CeT):Bool:= !Nat.beq 3 c.1.toNat||ckR (evF ev1 (evC ev1 20000) 186 [qsN,ceD c]) (qas (lk3 c).2.2)
noncomputable def evI:Ev:=⟨Tryz.prog,tbl,Tryz.prog.funcs.toList,muE,qxQ [] [],fun t=>Nat.beq t 159,fun g=>false,qxF,qlK⟩
noncomputable def mB(c:CeT):Bool:=match evF evI (evC evI 20000) 261 [qly,pD (lk3 c).1] with
 |some [p] =>qmk 8 (.l ((lk3 c).2.1.map i64)) p
 |_=>false
theorem parts{l:List CeT}{p:CeT->Bool}(hl:l.length<=72)(h: ∀j,j<12->((l.drop (6*j)).take 6).all p=true): ∀c∈l,p c=true:=by
 intro c hc
 obtain ⟨i,hi,rfl⟩:=List.mem_iff_getElem.1 hc
 have:=List.all_eq_true.1 (h (i/6) (by omega)) l[i] (by
  rw [List.mem_take_iff_getElem]
  refine ⟨i%6,by simp;omega, ?_⟩
  rw [List.getElem_drop]
  congr 1;omega)
 exact this
end Go.Nv
end
