import Derived.Test.YtdjbkccoofcnjaaGreatNvN3
set_option linter.all false
set_option maxRecDepth 100000
section
namespace Go.Nv
open Go.RowKit
section
variable {P:Program} {T:Tb} {k0:Nat} {mu:Bool} {ρ:Operand→S} {τ:Nat→B} {ty:TypeId} {op:Op}
def Sx(P:Program)(k0:Nat)(mu:Bool)(ρ:Operand→S)(τ:Nat→B)(ty:TypeId)(op:Op)(s:S)(u:Option (Nat×B)):Prop:=
 ∃e:Eff,opS P k0 mu ρ τ ty op=some e∧e.side∧e.val=s∧e.upd=u
def OutOk(P:Program)(k0:Nat)(mu:Bool)(ρ:Operand→S)(τ:Nat→B)(ty:TypeId)(op:Op):Out→Prop
 | .fail=>True
 | .val s u=>Sx P k0 mu ρ τ ty op s u
 | .side b s u=>b=true→Sx P k0 mu ρ τ ty op s u
 | .idx cells e xs n=> ∃xt x i k,op= .indexAddr xt x i∧ρ x= .d (.l xs)∧ρ i= .d (.v (.int k n))∧elemT P xt=some e∧P.cellsOf e=cells∧0<cells
 | .rld ty' agg cells size xs off=> ∃x k ver e bytes,op= .load ty' x∧ρ x= .ptr k ver off∧τ k= .row ver e size bytes xs∧(P.underlying ty').isSome=true∧isAggT P ty'=agg∧P.cellsOf ty'=cells
 | .rst cells k v e size bytes xs off d=> ∃ty' x y,op= .store ty' x y∧ρ x= .ptr k v off∧τ k= .row v e size bytes xs∧ρ y= .d d∧(P.underlying ty').isSome=true∧P.cellsOf ty'=cells
 | .pick z a b=> ∃c x y,op= .pick c x y∧ρ c= .d (.v (.bool z))∧ρ x=a∧ρ y=b
 | .boo b=>Sx P k0 mu ρ τ ty op (.d (.v (.bool b))) none
variable {G:Out→Prop}
theorem g_ti(hT:TbOk P T){t:TypeId}{f:TI→Out}(hf:G .fail)(h: ∀i,TIok P t i→G (f i)):G (ti T t f):=by
 unfold ti
 split
 ·rename_i i hi;exact h i (hT t i hi)
 ·exact hf
theorem blt_lt{a b:Nat}(h:Nat.blt a b=true):a<b:=by rw [Nat.blt_eq] at h;exact h
theorem g_ch{b:Bool}{o:Out}(hf:G .fail)(h:b=true→G o):G (ch b o):=by
 cases b
 ·exact hf
 ·exact h rfl
theorem opX_ok(hT:TbOk P T):OutOk P k0 mu ρ τ ty op (opX T k0 mu ρ τ ty op):=by
 have F:OutOk P k0 mu ρ τ ty op .fail:=trivial
 have mkv: ∀{e:Eff},opA P k0 mu ρ τ ty op=some e→e.side→OutOk P k0 mu ρ τ ty op (.val e.val e.upd):=fun h hs=>⟨_,opS_of h,hs,rfl,rfl⟩
 have mkE: ∀{e:Eff} {b:Bool},opA P k0 mu ρ τ ty op=none→opE P ρ τ op=some e→(b=true→e.side)→OutOk P k0 mu ρ τ ty op (.side b e.val e.upd):=fun h0 h hs hb=>⟨_,by unfold opS;rw [h0];exact h,hs hb,rfl,rfl⟩
 have mks: ∀{e:Eff} {b:Bool},opA P k0 mu ρ τ ty op=some e→(b=true→e.side)→OutOk P k0 mu ρ τ ty op (.side b e.val e.upd):=fun h hs hb=>⟨_,opS_of h,hs hb,rfl,rfl⟩
 have mki: ∀{k:IntKind} {n:Int} {b:Prop} {v:Value},(b→v= .int k (wrV k n))→b→(∃e:Eff,opA P k0 mu ρ τ ty op=some e∧(b→wrS k n→e.side)∧e.val= .d (.v (.int k (wrV k n)))∧e.upd=none)→OutOk P k0 mu ρ τ ty op (mkI k n):=by
  intro k n b v _ hb ⟨e,h1,h2,h3,h4⟩
  cases k<;>simp only [mkI,OutOk,decide_eq_true_eq] <;>first
   |exact fun hh=>⟨e,opS_of h1,h2 hb hh,h3,h4⟩
   |exact ⟨e,opS_of h1,h2 hb trivial,h3,h4⟩
 cases op with
 |move x=>exact mkv (e:={val:=ρ x}) rfl trivial
 |assign x=>
  rw [opX]
  cases h:isNilSl x with
  |false=>
   refine mkv (e:={val:=ρ x}) ?_ trivial
   rw [opA]
   intro hx;subst hx;simp [isNilSl] at h
  |true=>
   have hx:x= .const (.slice none 0 0):=by
    unfold isNilSl at h
    split at h
    ·rfl
    ·simp at h
   subst hx
   refine g_ti hT F fun i hi=> ?_
   split
   ·rename_i e he
    refine g_ti hT F fun j hj=> ?_
    have h1:elemT P ty=some e:=by
     rcases hi.elem with h|h; · rw [he] at h;simp at h
     ·rw [h,he]
    rw [cb_eq, ←hj.cells, ←hj.bytes]
    exact mkv (e:={val:= .own k0 0,upd:=some (k0,.row 0 e (P.cellsOf e) (P.bytesOf e) [])}) (by simp only [opA,h1]) trivial
   ·exact F
 |pick c a b=>
  rw [opX]
  split
  ·rename_i z hz;exact ⟨c,a,b,rfl,hz,rfl,rfl⟩
  ·exact F
 |alloc e=>
  rw [opX]
  refine g_ti hT F fun i hi=> ?_
  split
  ·rename_i z zs hz
   have h1:zeroCells P e=some (z::zs):=by
    rcases hi.zero with h|h; · rw [hz] at h;simp at h
    ·rw [h,hz]
   exact mkv (e:={val:= .ptr k0 0 0,upd:=some (k0,.box e ((z::zs).map .d)),side:=(z::zs).isEmpty=false}) (by simp only [opA,h1]) rfl
  ·exact F
 |box e x=>
  rw [opX]
  have own: ∀s,ρ x=s→(mu=true∨ ∀y,s≠ .d y)→OutOk P k0 mu ρ τ ty (.box e x) (ch (bnot (isNil' s.cells)) (ch (okX τ s) (.val (.ptr k0 0 0) (some (k0,.box e s.cells))))):=by
   intro s hs hm
   refine g_ch F fun h1=>g_ch F fun h2=> ?_
   rw [bnot_eq,isNil'_eq] at h1
   rw [okX_eq] at h2
   refine mkv (e:={val:= .ptr k0 0 0,upd:=some (k0,.box e s.cells),side:=s.cells.isEmpty=false∧okS (verT τ) s=true}) ?_ ⟨by simpa using h1,h2⟩
   rw [opA,hs]
   intro y hm' hy
   rcases hm with rfl|hm
   ·simp at hm'
   ·exact hm y (by rw [←hs,hy])
  unfold boxX
  split
  ·rename_i y hy
   refine g_ch trivial fun h1=> ?_
   exact mkv (e:={val:= .d (.p 0 y.cells),side:=y.cells.isEmpty=false}) (by simp only [opA,hy]) (neD_eq h1)
  ·rename_i hne
   refine own _ rfl ?_
   rename_i m _ _
   cases m with
   |true=>exact .inl rfl
   |false=>exact .inr fun y hy=>hne y rfl hy
 |build t ps=>
  rw [opX]
  refine g_ti hT F fun i hi=> ?_
  split
  ·rename_i pl zs hpl hzs
   refine g_ch F fun h1=> ?_
   split
   ·rename_i cs hcs
    have h2:Nv.plcs P t=some pl:=by
     rcases hi.plcs with h|h; · rw [hpl] at h;simp at h
     ·rw [h,hpl]
    have h3:zeroCells P t=some zs:=by
     rcases hi.zero with h|h; · rw [hzs] at h;simp at h
     ·rw [h,hzs]
    rw [eqNx_eq] at h1
    refine mkv (e:={val:=aggS cs,side:=(ps.toList.all fun x=>okS (verT τ) (ρ x.2))=true}) (by simp only [opA,h2,h3,buildX_eq _ _ _ _ hcs,Option.map_some]) ?_
    simpa [List.all_map] using h1
   ·exact F
  ·exact F
 |load ty' x=>
  rw [opX]
  refine g_ti hT F fun i hi=> ?_
  have hu:=hi.und
  split
  ·rename_i off cs hx
   rw [partX_eq hi]
   cases hp:partD P ty' cs off with
   |none=>exact F
   |some d=>exact mkv (e:={val:= .d d}) (by simp only [opA,hu,hx,hp,if_true,Option.map_some]) trivial
  ·rename_i k ver off hx
   split
   ·rename_i bt cs hk
    refine g_ch F fun h1=> ?_
    have h1:ver=0:=Nat.eq_of_beq_eq_true h1
    rw [partSX_eq hi]
    cases hp:partS P ty' cs off with
    |none=>exact F
    |some d=>exact mkv (e:={val:=d}) (by simp only [opA,hu,hx,hk,h1,hp,if_true,Option.map_some]) trivial
   ·rename_i v e size bytes xs hk
    refine g_ch F fun h1=> ?_
    have h1:ver=v:=Nat.eq_of_beq_eq_true h1
    subst h1
    exact ⟨x,k,ver,e,bytes,rfl,hx,hk,hu,hi.agg,hi.cells⟩
   ·exact F
  ·exact F
 |store ty' x y=>
  rw [opX]
  refine g_ti hT F fun i hi=> ?_
  have hu:=hi.und
  split
  ·rename_i k ver off hx
   split
   ·rename_i bt cs hk
    refine g_ch F fun h1=>g_ch F fun h2=>g_ch F fun h3=>g_ch F fun h4=> ?_
    have h1:ver=0:=Nat.eq_of_beq_eq_true h1
    have h2:=Nat.le_of_ble_eq_true h2
    have h3:=Nat.eq_of_beq_eq_true h3
    rw [len'_eq] at h2 h3
    rw [len'_eq] at h2
    rw [okX_eq] at h4
    refine mkv (e:={val:= .top,upd:=some (k,.box bt (splice cs off (ρ y).cells)),side:=(ρ y).cells.length=P.cellsOf ty'∧okS (verT τ) (ρ y)=true}) ?_ ⟨by rw [h3,hi.cells],h4⟩
    simp only [opA,hu,hx,hk,if_true]
    rw [if_pos ⟨h1,h2⟩]
   ·rename_i v e size bytes xs hk
    split
    ·rename_i d hy
     refine g_ch F fun h1=> ?_
     have h1:ver=v:=Nat.eq_of_beq_eq_true h1
     subst h1
     exact ⟨ty',x,y,rfl,hx,hk,hy,hu,hi.cells⟩
    ·exact F
   ·exact F
  ·exact F
 |fieldAddr s x f=>
  rw [opX]
  refine g_ti hT F fun i hi=> ?_
  split
  ·rename_i o ft hf
   refine g_ti hT F fun j hj=>g_ch F fun h0=> ?_
   rw [lkO_eq] at hf
   have hfo:fieldOff P s f=some (o,ft):=by
    rcases hi.fields with h|h
    ·rw [h] at hf;simp at hf
    ·rw [h,hf]
   have hc:P.cellsOf ft≠0:=by rw [hj.cells];have:=blt_lt h0;omega
   split
   ·rename_i off cs hx
    exact mkv (e:={val:= .d (.p (off+o) cs),side:=P.cellsOf ft≠0}) (by simp only [opA,hfo,hx]) hc
   ·rename_i k ver off hx
    refine g_ch F fun h1=> ?_
    exact mkv (e:={val:= .ptr k ver (off+o),side:=P.cellsOf ft≠0∧verT τ k=some (some ver)}) (by simp only [opA,hfo,hx]) ⟨hc,verB_eq.1 h1⟩
   ·exact F
  ·exact F
 |field s x f=>
  rw [opX]
  refine g_ti hT F fun i hi=> ?_
  split
  ·rename_i o ft hf
   refine g_ti hT F fun j hj=> ?_
   rw [lkO_eq] at hf
   have hfo:fieldOff P s f=some (o,ft):=by
    rcases hi.fields with h|h
    ·rw [h] at hf;simp at hf
    ·rw [h,hf]
   have hu:=hj.und
   split
   ·rename_i cs hx
    rw [partX_eq hj]
    cases hp:partD P ft cs o with
    |none=>exact F
    |some d=>exact mkv (e:={val:= .d d}) (by simp only [opA,hfo,hu,hx,hp,if_true,Option.map_some]) trivial
   ·rename_i cs hx
    rw [partSX_eq hj]
    cases hp:partS P ft cs o with
    |none=>exact F
    |some d=>exact mkv (e:={val:=d}) (by simp only [opA,hfo,hu,hx,hp,if_true,Option.map_some]) trivial
   ·exact F
  ·exact F
 |extract x i=>
  rw [opX]
  split
  ·rename_i xs hx
   rw [lkO_eq]
   cases hp:xs[i]? with
   |none=>exact F
   |some d=>exact mkv (e:={val:=d}) (by simp only [opA,hx,hp,Option.map_some]) trivial
  ·exact F
 |binOp bop xt x y yt=>
  rw [opX]
  split
  ·rename_i a ha
   split
   ·rename_i b hb
    split
    ·rename_i p
     split
     ·rename_i q
      refine g_ti hT F fun i hi=>g_ch F fun h0=> ?_
      have hbo:=hi.boo h0
      cases bop<;>first|exact F|skip
      ·show OutOk _ _ _ _ _ _ _ (.boo _);exact mkv (e:={val:= .d (.v (.bool (p==q))),side:=P.underlying xt=some .bool}) (by simp only [opA,ha,hb]) hbo
      ·show OutOk _ _ _ _ _ _ _ (.boo _);exact mkv (e:={val:= .d (.v (.bool (!(p==q)))),side:=P.underlying xt=some .bool}) (by simp only [opA,ha,hb]) hbo
     ·exact F
    ·rename_i hnb
     have hop:opA P k0 mu ρ τ ty (.binOp bop xt x y yt)=(binV bop a b).map fun r=>{val:= .d (.v r.1),side:=r.2}:=by
      simp only [opA,ha,hb]
      split
      ·rename_i p q;exact absurd rfl (hnb p)
      ·rfl
     have key: ∀{v:Value} {sd:Prop},binV bop a b=some (v,sd)→sd→OutOk P k0 mu ρ τ ty (.binOp bop xt x y yt) (.val (.d (.v v)) none):=by
      intro v sd h1 h2
      exact mkv (e:={val:= .d (.v v),side:=sd}) (by rw [hop,h1];rfl) h2
     have keys: ∀{v:Value} {sd:Prop} {z:Bool},binV bop a b=some (v,sd)→(z=true→sd)→OutOk P k0 mu ρ τ ty (.binOp bop xt x y yt) (.side z (.d (.v v)) none):=by
      intro v sd z h1 h2
      exact mks (e:={val:= .d (.v v),side:=sd}) (by rw [hop,h1];rfl) h2
     have keyi: ∀{k:IntKind} {n:Int} {sd:Prop},binV bop a b=some (.int k (wrV k n),sd)→(wrS k n→sd)→OutOk P k0 mu ρ τ ty (.binOp bop xt x y yt) (mkI k n):=by
      intro k n sd h1 h2
      exact mki (b:=True) (v:= .int k (wrV k n)) (fun _=>rfl) trivial ⟨{val:= .d (.v (.int k (wrV k n))),side:=sd},by rw [hop,h1];rfl,fun _=>h2,rfl,rfl⟩
     have keyis: ∀{k:IntKind} {n:Int} {sd:Prop} {z:Bool},binV bop a b=some (.int k (wrV k n),sd)→(z=true→wrS k n→sd)→OutOk P k0 mu ρ τ ty (.binOp bop xt x y yt) (sideO z (mkI k n)):=by
      intro k n sd z h1 h2
      have ok: ∀b:Bool,(b=true→wrS k n)→(z&&b)=true→Sx P k0 mu ρ τ ty (.binOp bop xt x y yt) (.d (.v (.int k (wrV k n)))) none:=by
       intro b hb hz
       simp only [Bool.and_eq_true] at hz
       exact ⟨{val:= .d (.v (.int k (wrV k n))),side:=sd},opS_of (by rw [hop,h1];rfl),h2 hz.1 (hb hz.2),rfl,rfl⟩
      cases k<;>simp only [mkI,sideO,OutOk] <;>first
       |exact ok _ (by simp [wrS])
       |exact fun hz=>ok true (by simp [wrS]) (by simp [hz])
     have keym: ∀{k:IntKind} {n:Int} {sd:Prop},binV bop a b=some (.int k (k.wrap n),sd)→sd→OutOk P k0 mu ρ τ ty (.binOp bop xt x y yt) (mkI k n):=by
      intro k n sd h1 h2
      have base:Sx P k0 mu ρ τ ty (.binOp bop xt x y yt) (.d (.v (.int k (k.wrap n)))) none:=⟨{val:= .d (.v (.int k (k.wrap n))),side:=sd},opS_of (by rw [hop,h1];rfl),h2,rfl,rfl⟩
      cases k<;>simp only [mkI,OutOk] <;>first
       |(intro hz;rw [wr_eq .i8 n (by simpa [wrS] using hz)] at base;exact base)
       |(intro hz;rw [wr_eq .i16 n (by simpa [wrS] using hz)] at base;exact base)
       |(intro hz;rw [wr_eq .i32 n (by simpa [wrS] using hz)] at base;exact base)
       |(intro hz;rw [wr_eq .i64 n (by simpa [wrS] using hz)] at base;exact base)
       |(rw [wr_eq .u8 n trivial] at base;exact base)
       |(rw [wr_eq .u16 n trivial] at base;exact base)
       |(rw [wr_eq .u32 n trivial] at base;exact base)
       |(rw [wr_eq .u64 n trivial] at base;exact base)
     split
     ·rename_i hI
      have hm:=isTwo_mul hI
      subst hm
      unfold mul2
      split
      ·rename_i a b
       have h:=key (v:= .int .i64 (IntKind.i64.wrap (a*b))) (sd:=IntKind.i64=IntKind.i64) rfl rfl
       unfold wr64;exact h
      ·exact F
     cases a with
     |int k a=>
      cases b with
      |int k' b=>
       have two: ∀{v:Value} {sd:Prop},binV bop (.int k a) (.int k' b)=some (v,sd)→(k=k'→sd)→Nat.beq (ikc k) (ikc k')=true→OutOk P k0 mu ρ τ ty (.binOp bop xt x y yt) (.val (.d (.v v)) none):=fun h1 h2 h3=>key h1 (h2 (ikc_inj h3))
       cases bop<;>simp only [binX] <;>first
        |exact keyis rfl (fun hz hw=>⟨by simpa using hz,hw⟩)
        |exact keys rfl (fun hz=>by simpa using hz)
        |(split
          ·rename_i hk
           have hk:=ikc_inj hk
           first
            |exact keyi rfl (fun hw=>⟨hk,hw⟩)
            |exact keym rfl hk
            |exact keyis rfl (fun hz hw=>⟨⟨hk,by simpa using hz⟩,hw⟩)
            |exact keys rfl (fun hz=>⟨hk,by simpa using hz⟩)
            |exact key rfl hk
            |(show OutOk _ _ _ _ _ _ _ (.boo _);exact key rfl hk)
          ·exact F)
      |_=>exact F
     |string a=>
      cases b with
      |string b=>
       cases bop<;>simp only [binX] <;>first
        |exact F
        |exact keys rfl (fun hz=>by simpa using hz)
        |(show OutOk _ _ _ _ _ _ _ (.boo _);exact key rfl trivial)
      |_=>exact F
     |bool p=>exact absurd rfl (hnb p)
     |_=>exact F
   ·exact F
  ·rename_i as ha
   split
   ·rename_i bs hb
    refine g_ti hT F fun i hi=> ?_
    split
    ·rename_i ks hks
     refine g_ch F fun h1=>g_ch F fun h2=> ?_
     have h1:=eqNs_eq h1
     have h2:=eqNs_eq h2
     have hs:StructEq P xt (as.map kdD)∧as.map kdD=bs.map kdD:=⟨by rw [h1];exact hi.eqk ks hks,by rw [h1,h2]⟩
     cases bop<;>first|exact F|skip
     ·show OutOk _ _ _ _ _ _ _ (.boo _);exact mkv (e:={val:= .d (.v (.bool (eqDs as bs))),side:=StructEq P xt (as.map kdD)∧as.map kdD=bs.map kdD}) (by simp only [opA,ha,hb]) hs
     ·show OutOk _ _ _ _ _ _ _ (.boo _);exact mkv (e:={val:= .d (.v (.bool (!eqDs as bs))),side:=StructEq P xt (as.map kdD)∧as.map kdD=bs.map kdD}) (by simp only [opA,ha,hb]) hs
    ·exact F
   ·exact F
  ·rename_i ds ha
   split
   ·rename_i hb
    refine g_ti hT F fun i hi=> ?_
    split
    ·rename_i e he
     have hE: ∃e,P.underlying xt=some (.slice e):=by
      rcases hi.elem with h|h
      ·rw [h] at he;cases he
      ·rw [he] at h;exact ⟨e,elemT_some h⟩
     have hn:bnot (isNil' ds)=true→ds≠ [] :=fun h hd=>by subst hd;cases h
     cases bop<;>first|exact F|skip
     ·exact mks (e:={val:= .d (.v (.bool false)),side:=ds≠ [] ∧ ∃e,P.underlying xt=some (.slice e)}) (by simp only [opA,ha,hb]) (fun h=>⟨hn h,hE⟩)
     ·exact mks (e:={val:= .d (.v (.bool true)),side:=ds≠ [] ∧ ∃e,P.underlying xt=some (.slice e)}) (by simp only [opA,ha,hb]) (fun h=>⟨hn h,hE⟩)
    ·exact F
   ·exact F
  ·exact F
 |unOp uop t x=>
  rw [opX]
  split
  ·rename_i a ha
   split
   ·rename_i b
    rw [bnot_eq]
    exact mkv (e:={val:= .d (.v (.bool !b))}) (by simp [opA,ha,unV]) trivial
   ·rename_i k n
    have h0:opA P k0 mu ρ τ ty (.unOp .neg t x)=some {val:= .d (.v (.int k (k.wrap (0-n))))}:=by simp [opA,ha,unV]
    have ok:wrS k (0-n)→Sx P k0 mu ρ τ ty (.unOp .neg t x) (.d (.v (.int k (wrV k (0-n))))) none:=fun hw=>⟨_,opS_of h0,trivial,by rw [wr_eq _ _ hw],rfl⟩
    cases k<;>simp only [mkI,OutOk] <;>first
     |exact fun hh=>ok (by simpa [wrS] using hh)
     |exact ok trivial
   ·rename_i k n
    exact mkv (e:={val:= .d (.v (.int k (k.wrap (BitVec.ofInt k.bits (if k.signed then-1 else k.max)^^^BitVec.ofInt k.bits n).toNat)))}) (by simp [opA,ha,unV]) trivial
   ·exact F
  ·exact F
 |nilCheck x=>
  rw [opX]
  split
  ·rename_i off cs hx;exact mkv (e:={val:= .d (.p off cs)}) (by simp only [opA,hx]) trivial
  ·rename_i k ver off hx
   refine g_ch F fun h1=> ?_
   exact mkv (e:={val:= .ptr k ver off,side:=verT τ k=some (some ver)}) (by simp only [opA,hx]) (verB_eq.1 h1)
  ·rename_i g cap hx;exact mkv (e:={val:= .d (.f g cap)}) (by simp only [opA,hx]) trivial
  ·exact F
 |index xt x i=>
  rw [opX]
  split
  ·rename_i s k n hx hi
   refine g_ti hT F fun j hj=>g_ch F fun h0=> ?_
   exact mks (e:={val:= .d (.v (.int .u8 (bt s n))),side:=0≤n∧n<s.size∧P.underlying xt=some .string}) (by simp only [opA,hx,hi]) (fun hz=>by simp only [decide_eq_true_eq] at hz;exact ⟨hz.1,hz.2,hj.str h0⟩)
  ·rename_i cs k n hx hi
   refine g_ti hT F fun j hj=> ?_
   split
   ·rename_i len e harr
    have h1:arrT P xt=some (len,e):=by
     rcases hj.arr with h|h; · rw [harr] at h;simp at h
     ·rw [h,harr]
    refine g_ti hT F fun je hje=>g_ch F fun h0=> ?_
    have h0:0<je.cells:=blt_lt h0
    split
    ·rename_i d hd
     rw [partX_eq hje, ←hje.cells] at hd
     refine mkE (e:={val:= .d d,side:=0≤n∧n<len∧P.cellsOf e≠0∧(P.underlying e).isSome=true}) (by simp only [opA,hx,hi]) (by simp only [opE,h1,hx,hi,hd,Option.map_some]) fun hz=> ?_
     simp only [decide_eq_true_eq] at hz
     exact ⟨hz.1,hz.2,by rw [hje.cells];omega,hje.und⟩
    ·exact F
   ·exact F
  ·exact F
 |indexAddr xt x i=>
  rw [opX]
  refine g_ti hT F fun j hj=> ?_
  split
  ·rename_i e he
   refine g_ti hT F fun je hje=>g_ch F fun h0=> ?_
   have h0:0<je.cells:=blt_lt h0
   have h1:elemT P xt=some e:=by
    rcases hj.elem with h|h; · rw [he] at h;simp at h
    ·rw [h,he]
   split
   ·rename_i xs k n hx hi
    rw [cb_eq]
    exact ⟨xt,x,i,k,rfl,hx,hi,h1,hje.cells,h0⟩
   ·rename_i k ver k' n hx hi
    split
    ·rename_i v e' size bytes xs hk
     refine g_ch F fun h2=>g_ch F fun h3=> ?_
     have h2:ver=v:=Nat.eq_of_beq_eq_true h2
     have h3:=Nat.eq_of_beq_eq_true h3
     exact mks (e:={val:= .ptr k ver (n.toNat*size),side:=ver=v∧size=P.cellsOf e∧0≤n∧n<xs.length∧Uni size xs∧0<size}) (by simp only [opA,hx,hi,h1,hk]) (fun hz=>by
      simp only [Bool.and_eq_true,decide_eq_true_eq,uniB_eq] at hz
      exact ⟨h2,by rw [h3,hje.cells],hz.1.1,hz.1.2,hz.2,by omega⟩)
    ·exact F
   ·exact F
  ·rename_i hn
   split
   ·rename_i len e harr
    have h1:arrT P xt=some (len,e):=by
     rcases hj.arr with h|h; · rw [harr] at h;simp at h
     ·rw [h,harr]
    have hno:opA P k0 mu ρ τ ty (.indexAddr xt x i)=none:=by
     have he:elemT P xt=none:=by
      unfold arrT at h1;unfold elemT
      split at h1
      ·rename_i hu;rw [hu]
      ·simp at h1
     simp only [opA,he]
     cases ρ x with
     |d y=>cases y<;>(try rfl);(cases ρ i<;>(try rfl));(rename_i q;cases q<;>(try rfl));(rename_i w;cases w<;>rfl)
     |own k v=>cases ρ i<;>(try rfl);(rename_i q;cases q<;>(try rfl));(rename_i w;cases w<;>rfl)
     |_=>rfl
    unfold idxAX
    refine g_ti hT F fun je hje=>g_ch F fun h0=> ?_
    have h0:0<je.cells:=blt_lt h0
    split
    ·rename_i kk n hi
     split
     ·rename_i k ver off hx
      refine g_ch F fun hv=> ?_
      have hv:=verB_eq.1 hv
      rw [cb_eq]
      refine mkE (e:={val:= .ptr k ver (off+n.toNat*je.cells),side:=0≤n∧n<len∧P.cellsOf e≠0∧verT τ k=some (some ver)}) hno (by simp only [opE,h1,hi,hx,hje.cells]) fun hz=> ?_
      simp only [decide_eq_true_eq] at hz
      exact ⟨hz.1,hz.2,by rw [hje.cells];omega,hv⟩
     ·rename_i off cs hx
      rw [cb_eq]
      refine mkE (e:={val:= .d (.p (off+n.toNat*je.cells) cs),side:=0≤n∧n<len∧P.cellsOf e≠0}) hno (by simp only [opE,h1,hi,hx,hje.cells]) fun hz=> ?_
      simp only [decide_eq_true_eq] at hz
      exact ⟨hz.1,hz.2,by rw [hje.cells];omega⟩
     ·exact F
    ·exact F
   ·exact F
 |makeFunc f first cap=>
  cases f with
  |func g=>
   rw [opX]
   refine g_ch F fun h0=> ?_
   have h0:first= #[] :=by
    rw [isNil'_eq] at h0
    simpa using h0
   exact mkv (e:={val:=match allD (cap.toList.map ρ) with|some ds=> .d (.f g ds)|none=> .clo g (cap.toList.map ρ)}) (by rw [opA,if_pos h0];cases allD (List.map ρ cap.toList)<;>rfl) trivial
  |_=>exact F
 |makeSlice t l c=>
  rw [opX]
  refine g_ti hT F fun i hi=> ?_
  split
  ·rename_i e he
   refine g_ti hT F fun j hj=>g_ch F fun h0=>g_ch F fun h00=> ?_
   have h1:elemT P t=some e:=by
    rcases hi.elem with h|h; · rw [he] at h;simp at h
    ·rw [h,he]
   split
   ·rename_i zs hz
    have h2:zeroCells P e=some zs:=by
     rcases hj.zero with h|h; · rw [hz] at h;simp at h
     ·rw [h,hz]
    split
    ·rename_i k n k' m hl hc
     refine g_ch F fun h3=> ?_
     rw [cb_eq,zhd_eq]
     refine mks (b:=decide (0≤n∧n≤m∧m≤maxLen∧(j.bytes:Int)*m≤281474976710656)) (e:={val:= .own k0 0,upd:=some (k0,.row 0 e j.cells j.bytes (List.replicate n.toNat (match j.agg with|true=> .a zs|false=>zs.headD (.v undef)))),side:=ElemOk P e (P.cellsOf e) (P.bytesOf e)∧0<P.cellsOf e∧(isAggT P e=false→zs.length=1)∧0≤n∧n≤m∧m≤maxLen∧(P.bytesOf e:Int)*m≤281474976710656}) ?_ (fun hq=> ?_)
     ·simp only [opA,h1,h2,hl,hc,hj.cells,hj.bytes,hj.agg]
      cases j.agg<;>rfl
     ·simp only [decide_eq_true_eq] at hq
      rw [hj.cells,hj.bytes,hj.agg]
      refine ⟨hj.eok h0,blt_lt h00,fun ha=> ?_,hq⟩
      rw [ha] at h3
      rw [←len'_eq];exact Nat.eq_of_beq_eq_true h3
    ·exact F
   ·exact F
  ·exact F
 |slice xt x lo hi m=>
  cases m with
  |some _=>exact F
  |none=>
   have ints: ∀q n,intX ρ q n=intS ρ q n:=by
    intro q n
    cases q with
    |none=>rfl
    |some q=>simp only [intX,intS];cases ρ q<;>rfl
   rw [opX]
   refine g_ti hT F fun i hi'=> ?_
   split
   ·rename_i s hx
    refine g_ch F fun h0=> ?_
    split
    ·rename_i l h hl hh
     rw [ints] at hl hh
     exact mks (e:={val:= .d (.v (.string (s.extract l.toNat h.toNat))),side:=0≤l∧l≤h∧h≤s.size∧P.underlying xt=some .string}) (by simp only [opA,hx,hl,hh]) (fun hz=>by simp only [decide_eq_true_eq] at hz;exact ⟨hz.1,hz.2.1,hz.2.2,hi'.str h0⟩)
    ·exact F
   ·rename_i xs hx
    split
    ·rename_i e he
     refine g_ti hT F fun j hj=>g_ch F fun h0=> ?_
     have h1:elemT P xt=some e:=by
      rcases hi'.elem with h|h; · rw [he] at h;simp at h
      ·rw [h,he]
     split
     ·rename_i l h hl hh
      rw [ints] at hl hh
      rw [cb_eq]
      exact mks (e:={val:= .d (.l (subL xs l.toNat h.toNat)),side:=0≤l∧l≤h∧h≤xs.length∧Uni (P.cellsOf e) xs∧0<P.cellsOf e}) (by simp only [opA,hx,hl,hh,h1]) (fun hz=>by
       simp only [Bool.and_eq_true,decide_eq_true_eq,uniB_eq] at hz
       rw [hj.cells]
       exact ⟨hz.1.1,hz.1.2.1,hz.1.2.2,hz.2,blt_lt h0⟩)
     ·exact F
    ·exact F
   ·rename_i k ver hx
    split
    ·rename_i e he
     refine g_ti hT F fun j hj=>g_ch F fun h0=> ?_
     have h1:elemT P xt=some e:=by
      rcases hi'.elem with h|h; · rw [he] at h;simp at h
      ·rw [h,he]
     split
     ·rename_i v et size bytes xs hk
      refine g_ch F fun h2=>g_ch F fun h3=> ?_
      have h2:ver=v:=Nat.eq_of_beq_eq_true h2
      have h3:=Nat.eq_of_beq_eq_true h3
      split
      ·rename_i l h hl hh
       rw [ints] at hl hh
       refine mkE (e:={val:= .d (.l (subL xs l.toNat h.toNat)),upd:=some (k,.dead),side:=ver=v∧size=P.cellsOf e∧0≤l∧l≤h∧h≤xs.length∧Uni size xs∧0<size}) (by simp only [opA,hx]) (by simp only [opE,hx,hk,h1,hl,hh]) fun hz=> ?_
       simp only [Bool.and_eq_true,decide_eq_true_eq,uniB_eq] at hz
       exact ⟨h2,by rw [h3,hj.cells],hz.1.1,hz.1.2.1,hz.1.2.2,hz.2,by rw [h3];exact blt_lt h0⟩
      ·exact F
     ·exact F
    ·exact F
   ·split
    ·rename_i len e harr
     have h1:arrT P xt=some (len,e):=by
      rcases hi'.arr with h|h; · rw [harr] at h;simp at h
      ·rw [h,harr]
     unfold slAX
     refine g_ti hT F fun je hje=>g_ch F fun h0=> ?_
     have h0:=Nat.eq_of_beq_eq_true h0
     split
     ·rename_i k ver hx
      split
      ·rename_i bt cs hk
       split
       ·rename_i ds hds
        refine g_ch F fun a1=>g_ch F fun a2=>g_ch F fun a3=>g_ch F fun a4=> ?_
        have a1:=Nat.eq_of_beq_eq_true a1
        have a2:=Nat.eq_of_beq_eq_true a2
        rw [len'_eq] at a2
        split
        ·rename_i l h hl hh
         rw [ints] at hl hh
         refine mkE (e:={val:= .d (.l (subL ds l.toNat h.toNat)),upd:=some (k,.dead),side:=ver=0∧0≤l∧l≤h∧h≤len∧ds.length=len∧P.cellsOf e=1∧(∀x∈ds,x.cells= [x])∧0<len∧len≤maxLen}) (by simp only [opA,hx]) (by simp only [opE,hx,hk,h1,hds,hl,hh]) fun hz=> ?_
         simp only [decide_eq_true_eq] at hz
         exact ⟨a1,hz.1,hz.2.1,hz.2.2.1,a2,by rw [hje.cells];exact h0,noAB_eq a3,blt_lt a4,hz.2.2.2⟩
        ·exact F
       ·exact F
      ·exact F
     ·exact F
    ·exact F
   ·exact F
 |convert src dst x=>
  rw [opX]
  unfold convX
  have byt: ∀{i j:TI} {e:TypeId},TIok P src i→i.elem=some e→TIok P e j→j.ik=some .u8→BytesT P src:=by
   intro i j e hi he hj hk
   refine ⟨e, ?_, ?_⟩
   ·rcases hi.elem with h|h
    ·rw [he] at h;simp at h
    ·rw [he] at h;unfold elemT at h;split at h
     ·rename_i hu;simp at h;subst h;exact hu
     ·simp at h
   ·rcases hj.ik with h|h
    ·rw [hk] at h;simp at h
    ·rw [hk] at h;unfold intKindOf at h;split at h
     ·rename_i hu;simp at h;subst h;exact hu
     ·simp at h
  split
  ·rename_i k n hx
   refine g_ti hT F fun i hi=>g_ti hT F fun j hj=> ?_
   split
   ·rename_i k' hk
    have h1:intKindOf P dst=some k':=by
     rcases hj.ik with h|h; · rw [hk] at h;simp at h
     ·rw [h,hk]
    exact mki (b:=True) (v:= .int k' (wrV k' n)) (fun _=>rfl) trivial ⟨{val:= .d (.v (.int k' (wrV k' n))),side:=(P.underlying src).isSome=true∧wrS k' n},by simp only [opA,hx,h1],fun _ hw=>⟨hi.und,hw⟩,rfl,rfl⟩
   ·exact F
  ·rename_i xs hx
   refine g_ti hT F fun i hi=> ?_
   split
   ·rename_i e he
    refine g_ti hT F fun j hj=> ?_
    split
    ·rename_i hk
     refine g_ti hT F fun l hl=>g_ch F fun h0=> ?_
     exact mkE (e:={val:= .d (.v (.string (bytS xs))),side:=BytesT P src∧P.underlying dst=some .string∧AllU8 xs}) (by simp only [opA,hx]) (by simp only [opE,hx]) fun hz=>⟨byt hi he hj hk,hl.str h0,allU8B_eq.1 hz⟩
    ·exact F
   ·exact F
  ·rename_i k ver hx
   split
   ·rename_i v et size bytes xs hk
    refine g_ti hT F fun i hi=> ?_
    split
    ·rename_i e he
     refine g_ti hT F fun j hj=> ?_
     split
     ·rename_i hik
      refine g_ti hT F fun l hl=>g_ch F fun h0=>g_ch F fun h1=>g_ch F fun h2=> ?_
      exact mkE (e:={val:= .d (.v (.string (bytS xs))),side:=ver=v∧size=1∧BytesT P src∧P.underlying dst=some .string∧AllU8 xs}) (by simp only [opA,hx]) (by simp only [opE,hx,hk]) fun hz=>⟨Nat.eq_of_beq_eq_true h1,Nat.eq_of_beq_eq_true h2,byt hi he hj hik,hl.str h0,allU8B_eq.1 hz⟩
     ·exact F
    ·exact F
   ·exact F
  ·exact F
 |buildSlice t n parts=>
  rw [opX]
  refine g_ti hT F fun i hi=> ?_
  split
  ·rename_i e he
   have h1:elemT P t=some e:=by
    rcases hi.elem with h|h; · rw [he] at h;simp at h
    ·rw [h,he]
   refine g_ti hT F fun j hj=>g_ch F fun a1=>g_ch F fun a2=>g_ch F fun a3=>g_ch F fun a5=> ?_
   have a2:0<j.cells:=blt_lt a2
   have a3:=eqNs_eq a3
   have a5:=Nat.le_of_ble_eq_true a5
   split
   ·rename_i ds hds
    refine g_ch F fun a6=> ?_
    have a6:=uniB_eq.1 a6
    have hop:opA P k0 mu ρ τ ty (.buildSlice t n parts)=some {val:=if mu then .own k0 0 else .d (.l ds),upd:=if mu then some (k0,.row 0 e (P.cellsOf e) (P.bytesOf e) ds) else none,side:=ElemOk P e (P.cellsOf e) (P.bytesOf e)∧0<P.cellsOf e∧Uni (P.cellsOf e) ds∧n*P.cellsOf e≤16777216}:=by
     simp only [opA,h1,hds]
     rw [if_pos a3]
    have hsd:ElemOk P e (P.cellsOf e) (P.bytesOf e)∧0<P.cellsOf e∧Uni (P.cellsOf e) ds∧n*P.cellsOf e≤16777216:=by
     rw [hj.cells,hj.bytes];exact ⟨hj.eok a1,a2,a6,a5⟩
    have:=mkv hop hsd
    rw [hj.cells,hj.bytes] at this
    cases mu
    ·exact this
    ·simp only [cb_eq];exact this
   ·exact F
  ·exact F
 |call c=>
  obtain ⟨cal,args,ts⟩:=c
  cases cal with
  |builtin b=>
   cases b with
   |len=>
    rw [opX]
    split
    ·rename_i x t ha ht
     unfold lenX
     refine g_ti hT F fun i hi=> ?_
     have hel: ∀e,i.elem=some e→(elemT P t).isSome=true:=fun e he=>by
      rcases hi.elem with h|h
      ·rw [he] at h;simp at h
      ·rw [h,he];rfl
     split
     ·rename_i xs hx
      split
      ·rename_i e he
       exact mkv (e:={val:= .d (.v (.int .i64 xs.length)),side:=(elemT P t).isSome=true}) (by simp only [opA,ha,ht,hx]) (hel e he)
      ·exact F
     ·rename_i s hx
      refine g_ch F fun h0=> ?_
      exact mkv (e:={val:= .d (.v (.int .i64 s.size)),side:=P.underlying t=some .string}) (by simp only [opA,ha,ht,hx]) (hi.str h0)
     ·rename_i k ver hx
      split
      ·rename_i v e size bytes xs hk
       refine g_ch F fun h0=> ?_
       have h0:=Nat.eq_of_beq_eq_true h0
       split
       ·rename_i e he
        exact mkv (e:={val:= .d (.v (.int .i64 xs.length)),side:=ver=v∧(elemT P t).isSome=true}) (by simp only [opA,ha,ht,hx,hk]) ⟨h0,hel e he⟩
       ·exact F
      ·exact F
     ·exact F
    ·exact F
   |append=>
    rw [opX]
    split
    ·rename_i s x t t' ha ht
     unfold appX
     refine g_ch F fun h0=>g_ti hT F fun i hi=> ?_
     have h0:=Nat.eq_of_beq_eq_true h0
     split
     ·rename_i e he
      have h1:elemT P t=some e:=by
       rcases hi.elem with h|h; · rw [he] at h;simp at h
       ·rw [h,he]
      split
      ·rename_i k ver ys hs hx
       split
       ·rename_i v e' size bytes xs hk
        refine g_ch F fun a1=>g_ch F fun a2=>g_ti hT F fun j hj=>g_ch F fun a3=>g_ch F fun a4=>g_ch F fun a5=>g_ch F fun a6=> ?_
        have a1:=Nat.eq_of_beq_eq_true a1
        have a2:=Nat.eq_of_beq_eq_true a2
        have a4:=Nat.eq_of_beq_eq_true a4
        have a5:=Nat.eq_of_beq_eq_true a5
        have a6:=blt_lt a6
        refine mks (b:=(uniB size xs&&(uniB size ys&&decide (xs.length+ys.length≤maxLen∧(xs.length+ys.length)*bytes≤140737488355328)))) (e:={val:= .own k (v+1),upd:=some (k,.row (v+1) e size bytes (xs++ys)),side:=ElemOk P e size bytes∧0<size∧Uni size xs∧Uni size ys∧xs.length+ys.length≤maxLen∧(xs.length+ys.length)*bytes≤140737488355328}) ?_ (fun hz=> ?_)
        ·simp only [opA,ha,ht,hs,hx,h1,hk]
         rw [if_pos ⟨h0,a1,a2⟩]
        ·simp only [Bool.and_eq_true,decide_eq_true_eq,uniB_eq] at hz
         have:=hj.eok a3
         rw [←a4, ←a5] at this
         exact ⟨this,a6,hz.1,hz.2.1,hz.2.2.1,hz.2.2.2⟩
       ·exact F
      ·exact F
     ·exact F
    ·exact F
   |max=>
    rw [opX]
    split
    ·rename_i x y ha
     split
     ·rename_i k a k' b hx hy
      refine g_ch F fun h0=> ?_
      exact mkv (e:={val:= .d (.v (.int k (if a<b then b else a))),side:=k=k'}) (by simp only [opA,ha,hx,hy]) (ikc_inj h0)
     ·exact F
    ·exact F
   |min=>
    rw [opX]
    split
    ·rename_i x y ha
     split
     ·rename_i k a k' b hx hy
      refine g_ch F fun h0=> ?_
      exact ⟨{val:= .d (.v (.int k (if b<a then b else a))),side:=k=k'},by simp only [opS,opA,opE,ha,hx,hy],ikc_inj h0,rfl,rfl⟩
     ·exact F
    ·exact F
   |_=>exact F
  |value f=>exact F
  |invoke r m=>exact F
 |_=>exact F
end
end Go.Nv
end
section
namespace Go.Nv
open Go.RowKit
def Ok(P:Program)(c:Code)(st:St)(K:Ex→St→Prop):Prop:=
 ∀(n:Nat) (old bs:Nat→Prop) (w0:Ctx) (a:Act) (W:World) (ι:Nat→Value),Rel old bs w0 ι st a W→c.wpIn (FW w0.r) n P (Post old bs w0 K) a W
def OkOp(P:Program)(o:Oper)(st:St)(K:St→Prop):Prop:=
 ∀(n:Nat) (old bs:Nat→Prop) (w0:Ctx) (a:Act) (W:World) (ι:Nat→Value) (Kw:Act→World→Prop) (Q:Exit→Act→World→Prop),Rel old bs w0 ι st a W→
  (∀st' a' W' ι',K st'→Rel old bs w0 ι' st' a' W'→Kw a' W')→o.wpIn (FW w0.r) n P a W Kw Q
def Weak(st st':St):Prop:= ∀(old bs:Nat→Prop) (w0:Ctx) (a:Act) (W:World) (ι:Nat→Value),Rel old bs w0 ι st a W→ ∃ι',Rel old bs w0 ι' st' a W
section
variable {P:Program} {st st' st'':St} {K K':Ex→St→Prop} {c:Code}
theorem Weak.refl(st:St):Weak st st:=fun _ _ _ _ _ ι h=>⟨ι,h⟩
theorem Weak.trans(h:Weak st st')(k:Weak st' st''):Weak st st'':=fun old bs w0 a W ι hr=>by
 obtain ⟨ι',h1⟩:=h old bs w0 a W ι hr
 exact k old bs w0 a W ι' h1
theorem Ok.weak(hw:Weak st st')(h:Ok P c st' K):Ok P c st K:=fun n old bs w0 a W ι hr=>by
 obtain ⟨ι',h1⟩:=hw old bs w0 a W ι hr
 exact h n old bs w0 a W ι' h1
theorem OkOp.weak{o:Oper}{K:St→Prop}(hw:Weak st st')(h:OkOp P o st' K):OkOp P o st K:=fun n old bs w0 a W ι Kw Q hr hk=>by
 obtain ⟨ι',h1⟩:=hw old bs w0 a W ι hr
 exact h n old bs w0 a W ι' Kw Q h1 hk
theorem Ok.mono(h:Ok P c st K)(hk: ∀e st',K e st'→K' e st'):Ok P c st K':=fun n old bs w0 a W ι hr=>
 wpIn_mono (h n old bs w0 a W ι hr) fun e a' W' ⟨x,st',ι',h1,h2,h3⟩=>⟨x,st',ι',h1,hk x st' h2,h3⟩
theorem ok_vc(hm:P.follows .mixedOrders=true){mu:Tmp→Bool}(h:vc P mu c st K):Ok P c st K:=fun n old bs w0 a W ι hr=>vc_sound hm c st K h a W ι hr
end
def LeS:S→S→Prop
 |_,.top=>True
 |s,s'=>s=s'
def LeL:List S→List S→Prop
 | [], [] =>True
 |s::ss,s'::ss'=>LeS s s'∧LeL ss ss'
 |_,_=>False
theorem LeS.den{s s':S}(h:LeS s s'){W:World}{ι:Nat→Value}{vr:Nat→Option (Option Nat)}{ok:Nat→Prop}{v:Value}(hs:SDen W ι vr ok s v):SDen W ι vr ok s' v:=by
 cases s' with
 |top=>exact .top
 |_=>have:s=_:=h;rw [←this];exact hs
theorem LeL.den{W:World}{ι:Nat→Value}{vr:Nat→Option (Option Nat)}{ok:Nat→Prop}: ∀{ss ss':List S} {us:List Value},LeL ss ss'→SDenL W ι vr ok ss us→SDenL W ι vr ok ss' us
 | [], [],us,_,h=>h
 |s::ss,s'::ss',us,hl,h=>by
  obtain ⟨u,us',rfl,h1,h2⟩:=h.cons_inv
  exact SDenL.cons (hl.1.den h1) (hl.2.den h2)
 | [],_::_,us,hl,h=>hl.elim
 |_::_, [],us,hl,h=>hl.elim
theorem weak_le{env env':List S}{t t':List B}(ht:t=t')(h:LeL env env'):Weak ⟨env,t⟩ ⟨env',t'⟩:=fun old bs w0 a W ι hr=>by
 subst ht
 exact ⟨ι,hr.defers,hr.oldIn,hr.fr,hr.tok,h.den hr.env,hr.gh,hr.lap,hr.rnd⟩
def lk:List S→Nat→S
 | [],_=> .top
 |x::_,0=>x
 |_::xs,n+1=>lk xs n
def st1:List S→Nat→S→List S
 | [],_,_=> []
 |_::xs,0,s=>s::xs
 |x::xs,n+1,s=>x::st1 xs n s
theorem lk_eq(xs:List S)(n:Nat):lk xs n=xs.getD n .top:=by
 induction xs generalizing n with
 |nil=>simp [lk]
 |cons x xs ih=>cases n with
  |zero=>simp [lk]
  |succ n=>simp [lk,ih]
theorem st1_eq(xs:List S)(n:Nat)(s:S):st1 xs n s=xs.set n s:=by
 induction xs generalizing n with
 |nil=>simp [st1]
 |cons x xs ih=>cases n with
  |zero=>simp [st1]
  |succ n=>simp [st1,ih]
def evx(env:List S):Operand→S
 | .tmp t=>lk env t
 | .const v=>match constD v with|some d=> .d d|none=> .top
 | .global _=> .top
 | .func f=> .d (.f f [])
def putx(env:List S)(dst:Option Tmp)(s:S):List S:=match dst with|some d=>st1 env d s|none=>env
theorem evx_eq:evx=ev:=by
 funext env x
 cases x with
 |tmp t=>simp [evx,ev,lk_eq]
 |const v=>simp only [evx,ev];cases constD v<;>rfl
 |global g=>rfl
 |func f=>rfl
theorem putx_eq:putx=putE:=by
 funext env dst s
 cases dst<;>simp [putx,putE,st1_eq]
def cnd(z:Bool)(A B:Prop):Prop:=match z with|true=>A|false=>B
def frcS(s:S)(K:S→Prop):Prop:=match s with
 | .d x=>K (.d x)
 | .ptr a b c=>K (.ptr a b c)
 | .own a b=>K (.own a b)
 | .clo g cap=>K (.clo g cap)
 | .tup xs=>K (.tup xs)
 | .agg xs=>K (.agg xs)
 | .top=>K .top
theorem frcS_eq(s:S)(K:S→Prop):frcS s K=K s:=by cases s<;>rfl
def frcL{α:Type}:List α→(List α→Prop)→Prop
 | [],K=>K []
 |x::xs,K=>frcL xs fun ys=>K (x::ys)
theorem frcL_eq{α:Type}(xs:List α)(K:List α→Prop):frcL xs K=K xs:=by
 induction xs generalizing K with
 |nil=>rfl
 |cons x xs ih=>exact ih _
def frc(st:St)(K:St→Prop):Prop:=frcL st.env fun env=>frcL st.t fun t=>K ⟨env,t⟩
theorem frc_eq(st:St)(K:St→Prop):frc st K=K st:=by simp [frc,frcL_eq]
@[irreducible] def Sd(b:Bool)(K:Prop):Prop:=b=true∧K
@[irreducible] def CallK(P:Program)(f:Operand)(args:List Operand)(dst:Option Tmp)(st:St)(K:St→Prop):Prop:=
 ∀o:Oper,(∃ts,o.op= .call {callee:= .value f,args:=args.toArray,argTypes:=ts})→o.dst=dst→OkOp P o st K
@[irreducible] def IdxG(cells:Nat)(xs:List D)(n:Int)(K:D→Prop):Prop:=
 ∃x,xs[n.toNat]? =some x∧0≤n∧Uni cells xs∧K (.p 0 x.cells)
@[irreducible] def RldG(agg:Bool)(cells size:Nat)(xs:List D)(off:Nat)(K:D→Prop):Prop:=
 ∃i r x d,off=i*size+r∧r<size∧xs[i]? =some x∧Uni size xs∧partZ agg cells x.cells r=some d∧K d
@[irreducible] def RstG(cells size:Nat)(xs:List D)(off:Nat)(d:D)(K:List D→Prop):Prop:=
 ∃xs',setElem size xs off d.cells=some xs'∧d.cells.length=cells∧Uni size xs∧0<size∧K xs'
@[irreducible] def OkC(P:Program)(c:Code)(st:St)(K:Ex→St→Prop):Prop:=Ok P c st K
@[irreducible] def CallV(P:Program)(g:FuncId)(ds:List D)(t:List B)(K:Look→S→Option (Nat×B)→Prop):Prop:=
 (∃res,Fun P g ds res∧K ⟨[],none⟩ (resS res) none)∨
 (∃e size bytes res,FunO P g ds e size res∧K ⟨[],some t.length⟩ (.own t.length 0) (some (t.length,.row 0 e size bytes res)))
@[irreducible] def SafeG(ops:Array Oper)(ls:List Look)(K:Prop):Prop:=safeB ops ls=true∧K
def tatX:List B→Nat→B
 | [],_=> .gone
 |b::_,0=>b
 |_::t,n+1=>tatX t n
theorem tatX_eq:tatX=tat:=by
 funext t k
 induction t generalizing k with
 |nil=>simp [tatX,tat]
 |cons b t ih=>cases k with
  |zero=>simp [tatX,tat]
  |succ k=>simp [tatX,ih];simp [tat]
def tputX:List B→Nat→B→List B
 | [],0,b=> [b]
 | [],n+1,b=> .gone::tputX [] n b
 |_::t,0,b=>b::t
 |x::t,n+1,b=>x::tputX t n b
theorem tputX_eq:tputX=tput:=by
 funext t k b
 induction t generalizing k with
 |nil=>
  induction k with
  |zero=>simp [tputX,tput]
  |succ k ih=>simp [tputX,ih];simp [tput,List.replicate_succ]
 |cons x t ih=>cases k with
  |zero=>simp [tputX,tput]
  |succ k=>
   simp only [tputX,ih,tput,List.length_cons]
   by_cases h:k<t.length
   ·simp [h]
   ·simp [h]
def tupX(t:List B):Option (Nat×B)→List B
 |none=>t
 |some (k,b)=>tputX t k b
theorem tupX_eq:tupX=tupL:=by
 funext t u
 cases u with
 |none=>rfl
 |some x=>simp [tupX,tupL,tputX_eq]
def tt':S:= .d (.v (.bool true))
def ff':S:= .d (.v (.bool false))
def litN(n:Nat)(K:Nat→Prop):Prop:=match n with
 |0=>K 0|1=>K 1|2=>K 2|3=>K 3|4=>K 4|5=>K 5|6=>K 6|7=>K 7|8=>K 8|9=>K 9|10=>K 10|11=>K 11|12=>K 12
 |13=>K 13|14=>K 14|15=>K 15|16=>K 16|17=>K 17|18=>K 18|19=>K 19|20=>K 20|21=>K 21|22=>K 22|23=>K 23|24=>K 24|n=>K n
theorem litN_eq(n:Nat)(K:Nat→Prop):litN n K=K n:=by unfold litN;split<;>rfl
def outK(o:Out)(Kv:S→Option (Nat×B)→Prop):Prop:=
 match o with
 | .fail=>False
 | .val s u=>frcS s fun s=>Kv s u
 | .side b s u=>Sd b (Kv s u)
 | .idx cells e xs n=>IdxG cells xs n fun d=>Kv (.d d) none
 | .rld ty agg cells size xs off=>RldG agg cells size xs off fun d=>Kv (.d d) none
 | .rst cells k v e size bytes xs off d=>RstG cells size xs off d fun xs'=>Kv .top (some (k,.row v e size bytes xs'))
 | .pick z a b=>cnd z (frcS a fun a=>Kv a none) (frcS b fun b=>Kv b none)
 | .boo b=>Kv (.d (.v (.bool (bz b)))) none
def goOp(P:Program)(T:Tb)(mu:Tmp→Bool)(o:Oper)(st:St)(K:St→Prop):Prop:=
 match o.op with
 | .call {callee:= .value f,args,.. }=>CallK P f args.toList o.dst st K
 |op=>litN (len' st.t) fun k0=>outK (opX T k0 (muOf mu o.dst) (evx st.env) (tatX st.t) o.type op) fun s u=>frc ⟨putx st.env o.dst s,tupX st.t u⟩ K
def dstOf(ops:List Oper)(j:Nat):Option Tmp:=match lkO ops j with|some o=>o.dst|none=>none
def gop(P:Program)(T:Tb)(mu:Tmp→Bool)(ops:List Oper)(o:Oper)(st:St)(Kr:St→Prop):Prop:=
 match o.guard with
 |none=>goOp P T mu o st Kr
 |some (j,want)=>
  match dstOf ops j with
  |some d=>
   match lk st.env d with
   | .d (.v (.bool b))=>
    cnd b (match want with
      |true=>frc ⟨st1 st.env d tt',st.t⟩ fun st=>goOp P T mu o st Kr
      |false=>frc ⟨putx (st1 st.env d tt') o.dst (.tup []),st.t⟩ fun st=>Kr st)
     (match want with
      |true=>frc ⟨putx (st1 st.env d ff') o.dst (.tup []),st.t⟩ fun st=>Kr st
      |false=>frc ⟨st1 st.env d ff',st.t⟩ fun st=>goOp P T mu o st Kr)
   | .tup [] =>frc ⟨putx st.env o.dst (.tup []),st.t⟩ fun st=>Kr st
   |_=>False
  |none=>False
def goOps(P:Program)(T:Tb)(mu:Tmp→Bool)(ops:List Oper):List Oper→St→(St→Prop)→Prop
 | [],st,K=>K st
 |o::rest,st,K=>gop P T mu ops o st fun st'=>goOps P T mu ops rest st' K
def goDr(P:Program)(T:Tb)(mu:Tmp→Bool)(o:Oper)(st:St)(K:Look→St→Prop):Prop:=
 match o.op with
 | .call {callee:= .value f,args,.. }=>
  match evx st.env f,allD (args.toList.map (evx st.env)) with
  | .d (.f g cap),some ds=>CallV P g (ds++cap) st.t fun l s u=>frc ⟨putx st.env o.dst s,tupX st.t u⟩ (K l)
  |_,_=>False
 |op=>litN (len' st.t) fun k0=>outK (opX T k0 (muOf mu o.dst) (evx st.env) (tatX st.t) o.type op) fun s u=>frc ⟨putx st.env o.dst s,tupX st.t u⟩ (K ⟨tchOp (evx st.env) op,u.map (·.1)⟩)
def gdr(P:Program)(T:Tb)(mu:Tmp→Bool)(ops:List Oper)(o:Oper)(st:St)(Kr:Look→St→Prop):Prop:=
 match o.guard with
 |none=>goDr P T mu o st Kr
 |some (j,want)=>
  match dstOf ops j with
  |some d=>
   match lk st.env d with
   | .d (.v (.bool b))=>
    cnd b (match want with
      |true=>frc ⟨st1 st.env d tt',st.t⟩ fun st=>goDr P T mu o st Kr
      |false=>frc ⟨putx (st1 st.env d tt') o.dst (.tup []),st.t⟩ fun st=>Kr ⟨[],none⟩ st)
     (match want with
      |true=>frc ⟨putx (st1 st.env d ff') o.dst (.tup []),st.t⟩ fun st=>Kr ⟨[],none⟩ st
      |false=>frc ⟨st1 st.env d ff',st.t⟩ fun st=>goDr P T mu o st Kr)
   | .tup [] =>frc ⟨putx st.env o.dst (.tup []),st.t⟩ fun st=>Kr ⟨[],none⟩ st
   |_=>False
  |none=>False
def goDrs(P:Program)(T:Tb)(mu:Tmp→Bool)(ops:List Oper):List Oper→List Look→St→(List Look→St→Prop)→Prop
 | [],acc,st,K=>K acc st
 |o::rest,acc,st,K=>gdr P T mu ops o st fun l st'=>goDrs P T mu ops rest (acc++ [l]) st' K
def seqX(k:St→(Ex→St→Prop)→Prop)(K:Ex→St→Prop)(e:Ex)(st:St):Prop:=match e with
 | .normal=>k st K
 | .exit i=>K (.exit i) st
 | .ret=>K .ret st
def blkX(id:Nat)(K:Ex→St→Prop)(e:Ex)(st:St):Prop:=match e with
 | .exit i=>match Nat.beq i id with|true=>K .normal st|false=>K (.exit i) st
 | .normal=>K .normal st
 | .ret=>K .ret st
def norX(K:Ex→St→Prop)(st:St):Prop:=K .normal st
def drwX(ops:Array Oper)(K:Ex→St→Prop)(ls:List Look)(st:St):Prop:=SafeG ops ls (K .normal st)
def go(P:Program)(T:Tb)(mu:Tmp→Bool):Code→St→(Ex→St→Prop)→Prop
 | .skip,st,K=>K .normal st
 | .region _ ops draw,st,K=>match draw with
  |true=>goDrs P T mu ops.toList ops.toList [] st (drwX ops K)
  |false=>goOps P T mu ops.toList ops.toList st (norX K)
 | .seq a b,st,K=>go P T mu a st (seqX (go P T mu b) K)
 | .cond c a b,st,K=>match c with
  | .tmp d=>match lk st.env d with
   | .d (.v (.bool z))=>cnd z (frc ⟨st1 st.env d tt',st.t⟩ fun st=>go P T mu a st K) (frc ⟨st1 st.env d ff',st.t⟩ fun st=>go P T mu b st K)
   |_=>False
  |c=>match evx st.env c with
   | .d (.v (.bool z))=>cnd z (go P T mu a st K) (go P T mu b st K)
   |_=>False
 | .block id body,st,K=>go P T mu body st (blkX id K)
 | .exit id,st,K=>K (.exit id) st
 | .ret,st,K=>K .ret st
 |c,st,K=>OkC P c st K
end Go.Nv
end
section
namespace Go.Nv
open Go.RowKit
section
variable {P:Program} {T:Tb} {mu:Tmp→Bool} {o:Oper} {st:St}
theorem okOp_opS{K:St→Prop}{e:Eff}(he:opS P st.t.length (muOf mu o.dst) (ev st.env) (tat st.t) o.type o.op=some e)(hs:e.side)(hk:K ⟨putE st.env o.dst e.val,tupL st.t e.upd⟩):OkOp P o st K:=
 fun n old bs w0 a W ι Kw Q hr hK=>
 wpIn_of_opOk hr (opS_sound hr.tok hr.oldIn (tat_new _) hr.ev (fun v=>rfl) he hs) (opS_nodefer he) fun a' W' ι' _ hrel=>hK _ _ _ ι' hk hrel
theorem partD_flat{size:Nat}{xs:List D}(hu:Uni size xs){i r:Nat}{x d:D}{ty:TypeId}(hx:xs[i]? =some x)(hr:r<size)(hd:partD P ty x.cells r=some d):partD P ty (flat xs) (i*size+r)=some d:=by
 obtain ⟨h1,h2,h3⟩:=flat_elem hu hx
 unfold partD at*
 by_cases ha:isAggT P ty=true
 ·rw [if_pos ha] at hd ⊢
  split at hd
  ·rename_i hl
   rw [if_pos (by omega)]
   rw [←hd, ←h1, ←List.drop_drop]
   congr 2
   rw [List.drop_take,List.take_take]
   congr 1
   omega
  ·simp at hd
 ·rw [if_neg ha] at hd ⊢
  rw [←hd, ←h1,List.getElem?_take_of_lt hr,List.getElem?_drop]
theorem outK_sx{k0:Nat}{m:Bool}{ρ:Operand→S}{τ:Nat→B}{ty:TypeId}{op:Op}{Kv:S→Option (Nat×B)→Prop}(hT:TbOk P T)
  (h:outK (opX T k0 m ρ τ ty op) Kv): ∃s u,Sx P k0 m ρ τ ty op s u∧Kv s u:=by
 have ho:OutOk P k0 m ρ τ ty op (opX T k0 m ρ τ ty op):=opX_ok hT
 revert h ho
 generalize opX T k0 m ρ τ ty op=out
 intro h ho
 unfold outK at h
 cases out with
 |fail=>exact h.elim
 |val s u=>simp only [frcS_eq] at h;exact ⟨s,u,ho,h⟩
 |side b s u=>unfold Sd at h;exact ⟨s,u,ho h.1,h.2⟩
 |boo b=>simp only [bz_eq] at h;exact ⟨_,_,ho,h⟩
 |idx cells e xs n=>
  simp only at h
  unfold IdxG at h
  obtain ⟨x,h1,h2,h3,h4⟩:=h
  obtain ⟨xt,y,i,k,rfl,hy,hi,he,hc,h0⟩:=ho
  exact ⟨_,_,⟨{val:= .d (.p 0 x.cells),side:=0≤n∧Uni (P.cellsOf e) xs∧0<P.cellsOf e},opS_of (by simp only [opA,hy,hi,he,h1,Option.map_some]),⟨h2,by rw [hc];exact h3,by omega⟩,rfl,rfl⟩,h4⟩
 |rld ty' agg cells size xs off=>
  simp only at h
  unfold RldG at h
  obtain ⟨i,r,x,d,rfl,hr,hx,hu,hd,hk⟩:=h
  obtain ⟨y,k,ver,e,bytes,rfl,hy,hb,hund,ha,hc⟩:=ho
  rw [partZ_eq ha hc] at hd
  exact ⟨_,_,⟨{val:= .d d},opS_of (by simp only [opA,hund,hy,hb,if_true,partD_flat hu hx hr hd,Option.map_some]),trivial,rfl,rfl⟩,hk⟩
 |rst cells k v e size bytes xs off d=>
  simp only at h
  unfold RstG at h
  obtain ⟨xs',h1,h2,h3,h4,hk⟩:=h
  obtain ⟨ty',x,y,rfl,hx,hb,hy,hund,hc⟩:=ho
  exact ⟨_,_,⟨{val:= .top,upd:=some (k,.row v e size bytes xs'),side:=d.cells.length=P.cellsOf ty'∧Uni size xs∧0<size},opS_of (by simp only [opA,hund,hx,hb,hy,h1,if_true,Option.map_some]),⟨by rw [hc];exact h2,h3,h4⟩,rfl,rfl⟩,hk⟩
 |pick z a b=>
  obtain ⟨c,x,y,rfl,hc,rfl,rfl⟩:=ho
  simp only [frcS_eq] at h
  cases z with
  |true=>exact ⟨ρ x,none,⟨{val:=ρ x},opS_of (by simp only [opA,hc,if_true]),trivial,rfl,rfl⟩,h⟩
  |false=>exact ⟨ρ y,none,⟨{val:=ρ y},opS_of (by simp [opA,hc]),trivial,rfl,rfl⟩,h⟩
theorem goOp_sound{K:St→Prop}(hT:TbOk P T)(h:goOp P T mu o st K):OkOp P o st K:=by
 have plain:outK (opX T (len' st.t) (muOf mu o.dst) (evx st.env) (tatX st.t) o.type o.op) (fun s u=>frc ⟨putx st.env o.dst s,tupX st.t u⟩ K)→OkOp P o st K:=by
  intro h
  obtain ⟨s,u,⟨e,he,hs,rfl,rfl⟩,hk⟩:=outK_sx hT h
  rw [len'_eq,evx_eq,tatX_eq] at he
  rw [frc_eq,putx_eq,tupX_eq] at hk
  exact okOp_opS he hs hk
 unfold goOp at h
 split at h
 ·rename_i f args ts ho
  unfold CallK at h
  exact h o ⟨ts,by rw [ho]⟩ rfl
 ·rw [litN_eq] at h;exact plain h
theorem st1_id: ∀{env:List S} {d:Nat} {s:S},lk env d=s→s≠ .top→st1 env d s=env
 | [],d,s,h,hn=>by simp [lk] at h;exact absurd h.symm hn
 |x::env,0,s,h,hn=>by simp [lk] at h;subst h;rfl
 |x::env,d+1,s,h,hn=>by simp only [lk] at h;simp only [st1];rw [st1_id h hn]
theorem goOps_sound{ops:Array Oper}{K:St→Prop}{n:Nat}{old bs:Nat→Prop}{w0:Ctx}{Q:Exit→Act→World→Prop}(hT:TbOk P T)(hK: ∀st' a' W' ι',K st'→Rel old bs w0 ι' st' a' W'→Q .normal a' W'):
  ∀(l:List Oper) (i:Nat) (st:St) (a:Act) (W:World) (ι:Nat→Value),ops.toList.drop i=l→goOps P T mu ops.toList l st K→Rel old bs w0 ι st a W→wpOpsIn (FW w0.r) n P ops Q (List.range' i l.length) a W:=by
 intro l
 induction l with
 |nil=>intro i st a W ι _ hv h;exact hK _ _ _ _ hv h
 |cons o l ih=>
  intro i st a W ι hd hv h
  have hoi:ops[i]? =some o:=by
   have:(ops.toList.drop i)[0]? =some o:=by rw [hd];rfl
   simpa using this
  have hd':ops.toList.drop (i+1)=l:=by
   rw [←List.drop_drop,hd];rfl
  rw [List.length_cons,List.range'_succ]
  simp only [wpOpsIn,hoi]
  unfold goOps gop at hv
  split at hv
  ·rename_i hg
   rw [if_pos (by simp [Region.wanted,hg])]
   exact goOp_sound hT hv _ _ _ _ _ _ _ _ _ h fun st' a' W' ι' hk hrel=>ih (i+1) _ _ _ ι' hd' hk hrel
  ·rename_i j want hg
   split at hv
   ·rename_i d hd2
    split at hv
    ·rename_i b hb
     have hj:(ops[j]?).bind (·.dst)=some d:=by
      unfold dstOf at hd2
      rw [lkO_eq] at hd2
      rw [Array.getElem?_toList] at hd2
      split at hd2
      ·rename_i oo hoo;rw [hoo];exact hd2
      ·simp at hd2
     have hsd:=h.ev (.tmp d)
     have hb':ev st.env (.tmp d)= .d (.v (.bool b)):=by rw [←evx_eq];exact hb
     rw [hb'] at hsd
     have hval:=(sd_v hsd).1
     have hy:yielded ops a.tmps j=some b:=by
      unfold yielded
      rw [hj]
      simp only [Option.bind_some]
      have:a.tmps.getD d undef= .bool b:=hval
      cases hq:a.tmps[d]? with
      |none=>rw [Array.getD_eq_getD_getElem?,hq] at this;simp [undef] at this
      |some q=>rw [Array.getD_eq_getD_getElem?,hq] at this;simp at this;rw [this]
     have hcs:(b=want∧goOp P T mu o st fun st'=>goOps P T mu ops.toList l st' K)∨(b≠want∧goOps P T mu ops.toList l ⟨putx st.env o.dst (.tup []),st.t⟩ K):=by
      cases b with
      |true=>
       have e1:st1 st.env d tt'=st.env:=st1_id hb (by simp [tt',ff'])
       simp only [cnd,e1,frc_eq] at hv
       cases want with
       |true=>exact .inl ⟨rfl,hv⟩
       |false=>exact .inr ⟨by simp,hv⟩
      |false=>
       have e1:st1 st.env d ff'=st.env:=st1_id hb (by simp [tt',ff'])
       simp only [cnd,e1,frc_eq] at hv
       cases want with
       |true=>exact .inr ⟨by simp,hv⟩
       |false=>exact .inl ⟨rfl,hv⟩
     rcases hcs with ⟨hbw,hgo⟩|⟨hbw,hgo⟩
     ·rw [if_pos (by simp [Region.wanted,hg,hy,hbw])]
      exact goOp_sound hT hgo _ _ _ _ _ _ _ _ _ h fun st' a' W' ι' hk hrel=>ih (i+1) _ _ _ ι' hd' hk hrel
     ·rw [if_neg (by simp [Region.wanted,hg,hy,hbw])]
      refine ⟨fun f _=>FW.fn _ f, ?_⟩
      rw [putx_eq] at hgo
      refine ih (i+1) _ _ _ ι hd' hgo ?_
      exact h.put (StepTo.refl h.tok) (sd_und _ _ _ _)
    ·rename_i hb
     have hj:(ops[j]?).bind (·.dst)=some d:=by
      unfold dstOf at hd2
      rw [lkO_eq] at hd2
      rw [Array.getElem?_toList] at hd2
      split at hd2
      ·rename_i oo hoo;rw [hoo];exact hd2
      ·simp at hd2
     have hsd:=h.ev (.tmp d)
     have hb':ev st.env (.tmp d)= .tup [] :=by rw [←evx_eq];exact hb
     rw [hb'] at hsd
     have hy:=yielded_und (ops:=ops) (a:=a) hj (und_sd hsd)
     rw [if_neg (by simp [Region.wanted,hg,hy])]
     refine ⟨fun f _=>FW.fn _ f, ?_⟩
     rw [frc_eq,putx_eq] at hv
     refine ih (i+1) _ _ _ ι hd' hv ?_
     exact h.put (StepTo.refl h.tok) (sd_und _ _ _ _)
    ·exact hv.elim
   ·exact hv.elim
theorem goDr_vc{K:Look→St→Prop}(hT:TbOk P T)(h:goDr P T mu o st K):vcStep P mu o st K:=by
 have plain: ∀op,o.op=op→(∀f args ts,op≠ .call {callee:= .value f,args:=args,argTypes:=ts})→outK (opX T (len' st.t) (muOf mu o.dst) (evx st.env) (tatX st.t) o.type op) (fun s u=>frc ⟨putx st.env o.dst s,tupX st.t u⟩ (K ⟨tchOp (evx st.env) op,u.map (·.1)⟩))→vcStep P mu o st K:=by
  intro op hop hne h
  obtain ⟨s,u,⟨e,he,hs,rfl,rfl⟩,hk⟩:=outK_sx hT h
  rw [len'_eq,evx_eq,tatX_eq] at he
  rw [frc_eq,putx_eq,tupX_eq,evx_eq] at hk
  subst hop
  unfold vcStep
  split
  ·rename_i f args ts ho;exact (hne f args ts ho).elim
  ·rw [he];exact ⟨hs,hk⟩
 unfold goDr at h
 split at h
 ·rename_i f args ts ho
  unfold vcStep
  simp only [ho]
  split at h
  ·rename_i g cap ds hf hds
   rw [evx_eq] at hf hds
   simp only [hf,hds]
   unfold CallV at h
   simp only [frc_eq] at h
   rw [putx_eq,tupX_eq] at h
   exact h
  ·exact h.elim
 ·rename_i hne
  rw [litN_eq] at h
  exact plain _ rfl (fun f args ts h=>hne f args ts h) h
theorem vcStep_mono{K K':Look→St→Prop}(hkk: ∀l st,K l st→K' l st):vcStep P mu o st K→vcStep P mu o st K':=by
 unfold vcStep
 split
 ·split
  ·intro hv
   rcases hv with ⟨res,a1,a2⟩|⟨e,size,bytes,res,a1,a2⟩
   ·exact .inl ⟨res,a1,hkk _ _ a2⟩
   ·exact .inr ⟨e,size,bytes,res,a1,hkk _ _ a2⟩
  ·exact id
 ·split
  ·exact fun hv=>⟨hv.1,hkk _ _ hv.2⟩
  ·exact id
theorem goDrs_vc(hT:TbOk P T){ops:Array Oper}{K K':List Look→St→Prop}(hk: ∀ls st,K ls st→K' ls st): ∀(l:List Oper) (acc:List Look) (st:St),goDrs P T mu ops.toList l acc st K→vcOps P mu ops l acc st K'
 | [],acc,st,h=>hk _ _ h
 |o::rest,acc,st,hv=>by
  unfold goDrs gdr at hv
  unfold vcOps
  split at hv
  ·rename_i hg
   simp only [hg]
   exact vcStep_mono (fun l st' h'=>goDrs_vc hT hk rest _ st' h') (goDr_vc hT hv)
  ·rename_i j want hg
   simp only [hg]
   split at hv
   ·rename_i d hd2
    split at hv
    ·rename_i b hb
     have hj:(ops[j]?).bind (·.dst)=some d:=by
      unfold dstOf at hd2
      rw [lkO_eq] at hd2
      rw [Array.getElem?_toList] at hd2
      split at hd2
      ·rename_i oo hoo;rw [hoo];exact hd2
      ·simp at hd2
     have hb':ev st.env (.tmp d)= .d (.v (.bool b)):=by rw [←evx_eq];exact hb
     have hcs:(b=want∧goDr P T mu o st fun l st'=>goDrs P T mu ops.toList rest (acc++ [l]) st' K)∨(b≠want∧goDrs P T mu ops.toList rest (acc++ [⟨[],none⟩]) ⟨putx st.env o.dst (.tup []),st.t⟩ K):=by
      cases b with
      |true=>
       have e1:st1 st.env d tt'=st.env:=st1_id hb (by simp [tt',ff'])
       simp only [cnd,e1,frc_eq] at hv
       cases want with
       |true=>exact .inl ⟨rfl,hv⟩
       |false=>exact .inr ⟨by simp,hv⟩
      |false=>
       have e1:st1 st.env d ff'=st.env:=st1_id hb (by simp [tt',ff'])
       simp only [cnd,e1,frc_eq] at hv
       cases want with
       |true=>exact .inr ⟨by simp,hv⟩
       |false=>exact .inl ⟨rfl,hv⟩
     rw [hj]
     simp only [hb']
     rcases hcs with ⟨hbw,hgo⟩|⟨hbw,hgo⟩
     ·exact ⟨fun _=>vcStep_mono (fun l st' h'=>goDrs_vc hT hk rest _ st' h') (goDr_vc hT hgo),fun h=>absurd hbw h⟩
     ·rw [putx_eq] at hgo
      exact ⟨fun h=>absurd h hbw,fun _=>goDrs_vc hT hk rest _ _ hgo⟩
    ·rename_i hb
     have hj:(ops[j]?).bind (·.dst)=some d:=by
      unfold dstOf at hd2
      rw [lkO_eq] at hd2
      rw [Array.getElem?_toList] at hd2
      split at hd2
      ·rename_i oo hoo;rw [hoo];exact hd2
      ·simp at hd2
     have hb':ev st.env (.tmp d)= .tup [] :=by rw [←evx_eq];exact hb
     rw [hj]
     simp only [hb']
     rw [frc_eq,putx_eq] at hv
     exact goDrs_vc hT hk rest _ _ hv
    ·exact hv.elim
   ·exact hv.elim
theorem ok_go(hm:P.follows .mixedOrders=true)(hT:TbOk P T)(c:Code): ∀(st:St) (K:Ex→St→Prop),go P T mu c st K→Ok P c st K:=by
 induction c with
 |skip=>intro st K h n old bs w0 a W ι hr;exact wpIn_skip ⟨.normal,st,ι,rfl,h,hr⟩
 |region id ops draw=>
  intro st K h
  cases draw with
  |false=>
   intro n old bs w0 a W ι hr
   refine wpIn_region ?_
   have:=goOps_sound (n:=n) (old:=old) (bs:=bs) (w0:=w0) (Q:=Post old bs w0 K) (K:=norX K) hT (fun st' a' W' ι' hk hrel=>⟨.normal,st',ι',rfl,hk,hrel⟩)
    ops.toList 0 st a W ι (by simp) h hr
   rw [List.range_eq_range']
   simpa using this
  |true=>exact ok_vc (mu:=mu) hm (goDrs_vc hT (fun ls st' h'=>by unfold drwX SafeG at h';exact ⟨fun _=>h'.1,h'.2⟩) _ _ _ h)
 |seq x y ihx ihy=>
  intro st K h n old bs w0 a W ι hr
  refine wpIn_seq (wpIn_mono (ihx st _ h n old bs w0 a W ι hr) ?_)
  rintro e a' W' ⟨x',st',ι',rfl,hk,hrel⟩
  cases x' with
  |normal=>exact ihy st' K hk n old bs w0 a' W' ι' hrel
  |exit id=>exact ⟨.exit id,st',ι',rfl,hk,hrel⟩
  |ret=>exact ⟨.ret,st',ι',rfl,hk,hrel⟩
 |cond o x y ihx ihy=>
  intro st K h n old bs w0 a W ι hr
  have key: ∀z,ev st.env o= .d (.v (.bool z))→(z=true→go P T mu x st K)→(z=false→go P T mu y st K)→(Code.cond o x y).wpIn (FW w0.r) n P (Post old bs w0 K) a W:=by
   intro z hz h1 h2
   have hsd:=hr.ev o
   rw [hz] at hsd
   refine wpIn_cond (sd_v hsd).1 ?_
   cases z with
   |true=>exact ihx st K (h1 rfl) n old bs w0 a W ι hr
   |false=>exact ihy st K (h2 rfl) n old bs w0 a W ι hr
  unfold go at h
  split at h
  ·rename_i d
   split at h
   ·rename_i z hz
    have hz':ev st.env (.tmp d)= .d (.v (.bool z)):=by rw [←evx_eq];exact hz
    refine key z hz' (fun e=> ?_) (fun e=> ?_)
    ·subst e
     have e1:st1 st.env d tt'=st.env:=st1_id hz (by simp [tt',ff'])
     simp only [cnd,e1,frc_eq] at h
     exact h
    ·subst e
     have e1:st1 st.env d ff'=st.env:=st1_id hz (by simp [tt',ff'])
     simp only [cnd,e1,frc_eq] at h
     exact h
   ·exact h.elim
  ·rw [evx_eq] at h
   split at h
   ·rename_i z hz
    refine key z hz (fun e=> ?_) (fun e=> ?_)
    ·subst e;exact h
    ·subst e;exact h
   ·exact h.elim
 |block id x ih=>
  intro st K h n old bs w0 a W ι hr
  refine wpIn_block (wpIn_mono (ih st _ h n old bs w0 a W ι hr) ?_)
  rintro e a' W' ⟨x',st',ι',rfl,hk,hrel⟩
  cases x' with
  |normal=>exact ⟨.normal,st',ι',rfl,hk,hrel⟩
  |exit i=>
   simp only [Ex.toExit,Exit.inBlock]
   simp only [blkX] at hk
   by_cases hi:i=id
   ·simp only [hi,Nat.beq_refl,if_true] at hk ⊢;exact ⟨.normal,st',ι',rfl,hk,hrel⟩
   ·simp only [if_neg hi,show Nat.beq i id=false by rw [Bool.eq_false_iff];intro h';exact hi (Nat.eq_of_beq_eq_true h')] at hk ⊢;exact ⟨.exit i,st',ι',rfl,hk,hrel⟩
  |ret=>exact ⟨.ret,st',ι',rfl,hk,hrel⟩
 |exit id=>intro st K h n old bs w0 a W ι hr;exact wpIn_exit ⟨.exit id,st,ι,rfl,h,hr⟩
 |ret=>intro st K h n old bs w0 a W ι hr;exact wpIn_ret ⟨.ret,st,ι,rfl,h,hr⟩
 |loop x ih=>intro st K h;unfold go OkC at h;exact h
 |rangeFunc f ps as body _ _=>intro st K h;unfold go OkC at h;exact h
 |scope body _=>intro st K h;unfold go OkC at h;exact h
 |label l=>intro st K h;unfold go OkC at h;exact h
 |goto l=>intro st K h;unfold go OkC at h;exact h
 |refuse w=>intro st K h;unfold go OkC at h;exact h
end
end Go.Nv
end
section
namespace Go.Nv
open Go.RowKit
def noPtr:D→Bool
 | .v _=>true
 | .a cs=>go cs
 | .l [] =>true
 |_=>false
where go:List D→Bool
 | [] =>true
 |c::cs=>noPtr c&&go cs
def noPtrs(ds:List D):Bool:=ds.all noPtr
theorem noPtr_go{cs:List D}(h:noPtr.go cs=true): ∀c∈cs,noPtr c=true:=by
 induction cs with
 |nil=>simp
 |cons c cs ih=>
  simp only [noPtr.go,Bool.and_eq_true] at h
  intro x hx
  rcases List.mem_cons.1 hx with rfl|hx
  ·exact h.1
  ·exact ih h.2 x hx
theorem Den.free{W W':World}{ok ok':Nat→Prop}{d:D}{v:Value}(h:Den W ok d v)(hn:noPtr d=true):Den W' ok' d v:=by
 induction h with
 |v hx=>exact .v hx
 | @a cs us hl _ h1 ih=>
  have hn':=noPtr_go (cs:=cs) (by simpa [noPtr] using hn)
  exact .a hl (fun i c u hc hu=>ih i c u hc hu (hn' c (List.mem_of_getElem? hc))) h1
 |l0 hc h0=>exact .l0 hc h0
 | @l xs b off cap us hne hl ho hc hd h0 h1 h2 ih=>
  cases xs with
  |nil=>simp [flat] at hl;exact absurd hl hne
  |cons x xs=>simp [noPtr] at hn
 |p hne hl ho hc hd h0 ih=>simp [noPtr] at hn
 |f hl _ ih=>simp [noPtr] at hn
theorem DenL.free{W W':World}{ok ok':Nat→Prop}{ds:List D}{us:List Value}(h:DenL W ok ds us)(hn:noPtrs ds=true):DenL W' ok' ds us:=
 ⟨h.1,fun i c u hc hu=>(h.2 i c u hc hu).free (List.all_eq_true.1 hn c (List.mem_of_getElem? hc))⟩
theorem RetDen.free{W W':World}{ok ok':Nat→Prop}{ds:List D}{v:Value}(h:RetDen W ok ds v)(hn:noPtrs ds=true):RetDen W' ok' ds v:=by
 unfold RetDen at*
 split at h
 ·exact h.free (by simpa [noPtrs] using hn)
 ·obtain ⟨us,h1,h2⟩:=h
  exact ⟨us,h1,h2.free hn⟩
section
variable {P:Program} {st:St} {K:St→Prop} {f:Operand} {args:List Operand} {dst:Option Tmp} {g:FuncId} {cap ds res:List D} {o:Oper}
theorem okOp_vcStep{mu:Tmp→Bool}(h:vcStep P mu o st fun _ st'=>K st'):OkOp P o st K:=fun n old bs w0 a W ι Kw Q hr hK=>
 vcStep_sound hr h fun l st' a' W' ι' hk _ hrel=>hK st' a' W' ι' hk hrel
theorem call_data(hf:evx st.env f= .d (.f g cap))(hd:allD (args.map (evx st.env))=some ds)(h:Fun P g (ds++cap) res)(hk:K ⟨putx st.env dst (resS res),st.t⟩):CallK P f args dst st K:=by
 unfold CallK
 rintro o ⟨ts,ho⟩ rfl
 rw [evx_eq] at hf hd
 rw [putx_eq] at hk
 refine okOp_vcStep (mu:=fun _=>false) ?_
 unfold vcStep
 simp only [ho,hf,hd]
 exact .inl ⟨res,h,hk⟩
theorem call_fresh(hf:evx st.env f= .d (.f g cap))(hd:allD (args.map (evx st.env))=some ds){e:TypeId}{size bytes:Nat}(h:FunO P g (ds++cap) e size res)(hk:K ⟨putx st.env dst (.own (len' st.t) 0),tputX st.t (len' st.t) (.row 0 e size bytes res)⟩):CallK P f args dst st K:=by
 unfold CallK
 rintro o ⟨ts,ho⟩ rfl
 rw [evx_eq] at hf hd
 rw [putx_eq,tputX_eq,len'_eq] at hk
 refine okOp_vcStep (mu:=fun _=>false) ?_
 unfold vcStep
 simp only [ho,hf,hd]
 exact .inr ⟨e,size,bytes,res,h,hk⟩
def lend(t:List B)(ss:List S):Option (List D):=ss.mapM (toDS t 4)
def mapO(f:S→Option D):List S→Option (List D)
 | [] =>some []
 |c::cs=>match f c with|some d=>(match mapO f cs with|some ds=>some (d::ds)|none=>none)|none=>none
def ownX(t:List B)(k v:Nat):Option D:=match tatX t k with
  | .row v' _ size _ xs=>match Nat.beq v v' with|true=>(match Nat.blt 0 size with|true=>some (.l xs)|false=>none)|false=>none
  |_=>none
def toDX(t:List B):Nat→S→Option D
 |0,s=>match s with
  | .d x=>some x
  | .own k v=>ownX t k v
  |_=>none
 |n+1,s=>match s with
  | .d x=>some x
  | .own k v=>ownX t k v
  | .agg cs=>match mapO (toDX t n) cs with|some ds=>some (.a ds)|none=>none
  | .clo g cs=>match mapO (toDX t n) cs with|some ds=>some (.f g ds)|none=>none
  | .ptr k ver off=>match tatX t k with
   | .box _ (c::cs)=>match Nat.beq ver 0 with|true=>(match mapO (toDX t n) (c::cs) with|some ds=>some (.p off ds)|none=>none)|false=>none
   |_=>none
  |_=>none
def lendX(t:List B):List S→Option (List D)
 | [] =>some []
 |s::ss=>match toDX t 4 s with|some d=>(match lendX t ss with|some ds=>some (d::ds)|none=>none)|none=>none
theorem toDX_eq(t:List B): ∀(n:Nat) (s:S) (d:D),toDX t n s=some d→toDS t n s=some d:=by
 have hown: ∀n k v d,ownX t k v=some d→toDS t n (.own k v)=some d:=by
  intro n k v d h
  have e:toDS t n (.own k v)=match tat t k with
   | .row v' _ size _ xs=>if v=v'∧0<size then some (.l xs) else none
   |_=>none:=by cases n<;>rfl
  rw [e]
  unfold ownX at h
  rw [tatX_eq] at h
  split at h
  ·rename_i v' e size bytes xs hk
   split at h
   ·rename_i h1
    split at h
    ·rename_i h2
     rw [if_pos ⟨Nat.eq_of_beq_eq_true h1,blt_lt h2⟩];exact h
    ·simp at h
   ·simp at h
  ·simp at h
 intro n
 induction n with
 |zero=>
  intro s d h
  cases s with
  |d x=>simpa [toDX,toDS] using h
  |own k v=>exact hown _ _ _ _ h
  |_=>simp [toDX] at h
 |succ n ih=>
  have hgo: ∀cs ds,mapO (toDX t n) cs=some ds→cs.mapM (toDS t n)=some ds:=by
   intro cs
   induction cs with
   |nil=>intro ds h;simpa [mapO] using h
   |cons c cs ihc=>
    intro ds h
    unfold mapO at h
    split at h
    ·rename_i d hd
     split at h
     ·rename_i ds' hds
      simp at h;subst h
      rw [List.mapM_cons,ih _ _ hd,ihc _ hds];rfl
     ·simp at h
    ·simp at h
  intro s d h
  cases s with
  |d x=>simpa [toDX,toDS] using h
  |own k v=>exact hown _ _ _ _ h
  |agg cs=>
   simp only [toDX] at h;unfold toDS
   split at h
   ·rename_i ds hds;simp at h;subst h;rw [hgo _ _ hds];rfl
   ·simp at h
  |clo g cs=>
   simp only [toDX] at h;unfold toDS
   split at h
   ·rename_i ds hds;simp at h;subst h;rw [hgo _ _ hds];rfl
   ·simp at h
  |ptr k ver off=>
   simp only [toDX] at h;unfold toDS
   rw [tatX_eq] at h
   split at h
   ·rename_i e c cs hk
    rw [hk]
    split at h
    ·rename_i h1
     split at h
     ·rename_i ds hds
      simp at h;subst h
      simp only
      rw [if_pos ⟨Nat.eq_of_beq_eq_true h1,by simp⟩,hgo _ _ hds];rfl
     ·simp at h
    ·simp at h
   ·simp at h
  |tup cs=>simp [toDX] at h
  |top=>simp [toDX] at h
theorem lendX_eq{t:List B}: ∀{ss:List S} {ds:List D},lendX t ss=some ds→lend t ss=some ds
 | [],ds,h=>by simpa [lendX,lend] using h
 |s::ss,ds,h=>by
  unfold lendX at h
  unfold lend
  split at h
  ·rename_i d hd
   split at h
   ·rename_i ds' hds
    simp at h;subst h
    have:=lendX_eq hds
    unfold lend at this
    rw [List.mapM_cons,toDX_eq _ _ _ _ hd,this];rfl
   ·simp at h
  ·simp at h
theorem wpIn_callL{old bs:Nat→Prop}{w0:Ctx}{W:World}{ι:Nat→Value}{a:Act}{r:Option Nat}{n:Nat}(h:Rel old bs w0 ι st a W){ts:Array TypeId}(hop:o.op= .call {callee:= .value f,args:=args.toArray,argTypes:=ts})
  (hf:toDS st.t 4 (ev st.env f)=some (.f g cap)) (hds:lend st.t (args.map (ev st.env))=some ds) {R:Ending→World→Prop}
  (hc: ∀us,DenL W bs (ds++cap) us→Calls P g us.toArray W R) (hb:HasBody P g)
  {Kw:Act→World→Prop} {Q:Exit→Act→World→Prop} (hR: ∀e W',R e W'→ ∃v,e= .returned v∧Kw (a.put o.dst v) W'):o.wpIn (FW r) n P a W Kw Q:=by
 have hfv:=toDS_den h.tok 4 _ _ _ hf (h.ev f)
 obtain ⟨cs,hfe,hcs⟩: ∃us,a.eval f= .func (.func g) #[] (List.toArray us)∧DenL W bs cap us:=by
  cases hfv':a.eval f<;>rw [hfv'] at hfv<;>cases hfv
  exact ⟨_,rfl,by assumption,by assumption⟩
 have hargs:SDenL W ι (verT (tat st.t)) (okT bs (tat st.t) ι) (args.map (ev st.env)) (args.map a.eval):=by
  refine ⟨by simp,fun i c u hc hu=> ?_⟩
  rw [List.getElem?_map] at hc hu
  cases hq:args[i]? with
  |none=>simp [hq] at hc
  |some q=>simp [hq] at hc hu;subst hc;subst hu;exact h.ev q
 have hd:=mapM_den (fun s d v=>toDS_den h.tok 4 s d v) hds hargs
 refine ⟨fun f _=>FW.fn r f, ?_⟩
 rw [Oper.semAt_eq _ _ _ (by rw [hop];simp)]
 have hrun:(execOp a.eval o).run P W= .ok (.enter g ((args.map a.eval++cs).toArray)) W:=by
  obtain ⟨fn,h1,h2,h3⟩:=hb
  obtain ⟨c,h2⟩:=Option.isSome_iff_exists.1 h2
  simp [execOp,hop,resolve,hfe,Deferred.ofValue,invoke,callFunc,h1,h2,h3]
  simp_all
 rw [hrun]
 refine ⟨by simp [FW,Fence.wide], ?_⟩
 refine CallsIn.mono (FW.calls (hc _ (hd.append hcs))) fun e W' he=> ?_
 obtain ⟨v,rfl,hk⟩:=hR e W' he
 exact hk
theorem call_lend(hf:toDX st.t 4 (evx st.env f)=some (.f g cap))(hd:lendX st.t (args.map (evx st.env))=some ds)(h:Fun P g (ds++cap) res)(hn:noPtrs res=true)(hk:K ⟨putx st.env dst (resS res),st.t⟩):CallK P f args dst st K:=by
 unfold CallK
 rintro o ⟨ts,ho⟩ rfl
 rw [evx_eq] at hf hd
 rw [putx_eq] at hk
 intro n old bs w0 a W ι Kw Q hr hK
 refine wpIn_callL hr ho (toDX_eq _ _ _ _ hf) (lendX_eq hd) (hc:=fun us hd=>h.2 W _ us hd) h.1 ?_
 rintro e W' ⟨v,rfl,hret,hbel⟩
 refine ⟨v,rfl, ?_⟩
 have hst:=hr.tok.quiet hr.oldIn (grownBy_of_below hbel)
 exact hK _ _ _ ι hk (hr.put (t:=st.t) hst ((hret.free (ok':=okT bs (tat st.t) ι) hn).toS fun b hb _=>hb))
end
section
variable {P:Program} {st:St} {K:Ex→St→Prop} {body:Code}
theorem ok_loop{α:Type}(I:α→St)(μ:α→Nat)(x0:α)(hw:Weak st (I x0))
  (h: ∀x,Ok P body (I x) fun e st'=>match e with
   | .normal=> ∃y,μ y<μ x∧Weak st' (I y)
   |e=>K e st'):Ok P (.loop body) st K:=by
 intro n old bs w0 a W ι hr
 obtain ⟨ι0,hr0⟩:=hw old bs w0 a W ι hr
 classical
 let L:Nat→Act→World→Prop:=fun m a W=> ∃x ι,μ x=m∧Rel old bs w0 ι (I x) a W
 let J:Act→World→Prop:=fun a W=> ∃m,L m a W
 let μ':Act→World→Nat:=fun a W=>if h: ∃m,L m a W then Classical.choose (least h) else 0
 have hμ: ∀a W m,L m a W→μ' a W≤m:=by
  intro a W m hL
  have hex: ∃m,L m a W:=⟨m,hL⟩
  show (if h: ∃m,L m a W then Classical.choose (least h) else 0)≤m
  rw [dif_pos hex]
  exact (Classical.choose_spec (least hex)).2 m hL
 have hμ1: ∀a W,J a W→L (μ' a W) a W:=by
  intro a W hI
  show L (if h: ∃m,L m a W then Classical.choose (least h) else 0) a W
  rw [dif_pos hI]
  exact (Classical.choose_spec (least hI)).1
 refine wpIn_loop J μ' ⟨_,x0,ι0,rfl,hr0⟩ ?_
 intro a1 W1 hI
 obtain ⟨x,ι1,hx,hr1⟩:=hμ1 a1 W1 hI
 refine wpIn_mono (h x _ old bs w0 a1 W1 ι1 hr1) ?_
 rintro e a' W' ⟨x',st',ι',rfl,hk,hrel⟩
 cases x' with
 |normal=>
  obtain ⟨y,hy,hwk⟩:=hk
  obtain ⟨ι2,hr2⟩:=hwk old bs w0 a' W' ι' hrel
  have hL:L (μ y) a' W':=⟨y,ι2,rfl,hr2⟩
  exact ⟨⟨_,hL⟩,by have:=hμ a' W' _ hL;omega⟩
 |exit id=>exact ⟨.exit id,st',ι',rfl,hk,hrel⟩
 |ret=>exact ⟨.ret,st',ι',rfl,hk,hrel⟩
end
theorem cond_intro{z:Bool}{A B:Prop}(h1:z=true→A)(h2:z=false→B):cnd z A B:=by
 cases z
 ·exact h2 rfl
 ·exact h1 rfl
theorem cond_t{z:Bool}{A B:Prop}(h:z=true)(h1:A):cnd z A B:=by subst h;exact h1
theorem cond_f{z:Bool}{A B:Prop}(h:z=false)(h1:B):cnd z A B:=by subst h;exact h1
theorem cond_b{z:Bool}{A B:Prop}(h1:z=true→A)(h2:z=false→B):cnd (bz z) A B:=by
 rw [bz_eq];exact cond_intro h1 h2
theorem cond_bt{z:Bool}{A B:Prop}(h:z=true)(h1:A):cnd (bz z) A B:=by rw [bz_eq];exact cond_t h h1
theorem cond_bf{z:Bool}{A B:Prop}(h:z=false)(h1:B):cnd (bz z) A B:=by rw [bz_eq];exact cond_f h h1
theorem cond_d{p:Prop}[Decidable p]{A B:Prop}(h1:p→A)(h2: ¬p→B):cnd (bz (decide p)) A B:=
 cond_b (fun h=>h1 (of_decide_eq_true h)) (fun h=>h2 (of_decide_eq_false h))
theorem cond_dt{p:Prop}[Decidable p]{A B:Prop}(h:p)(h1:A):cnd (bz (decide p)) A B:=cond_bt (decide_eq_true h) h1
theorem cond_df{p:Prop}[Decidable p]{A B:Prop}(h: ¬p)(h1:B):cnd (bz (decide p)) A B:=cond_bf (decide_eq_false h) h1
theorem cond_e{α:Type}[DecidableEq α]{x y:α}{A B:Prop}(h1:x=y→A)(h2:x≠y→B):cnd (bz (x==y)) A B:=
 cond_b (fun h=>h1 (eq_of_beq h)) (fun h=>h2 (fun e=>by subst e;simp at h))
theorem cond_ne{α:Type}[DecidableEq α]{x y:α}{A B:Prop}(h1:x≠y→A)(h2:x=y→B):cnd (bz (x !=y)) A B:=
 cond_b (fun h=>h1 (by simpa using h)) (fun h=>h2 (by simpa using h))
theorem cond_nb{z:Bool}{A B:Prop}(h1:z=false→A)(h2:z=true→B):cnd (bnot z) A B:=by
 rw [bnot_eq];exact cond_intro (fun h=>h1 (by simpa using h)) (fun h=>h2 (by simpa using h))
theorem sd_intro{b:Bool}{K:Prop}(h:b=true)(k:K):Sd b K:=by unfold Sd;exact ⟨h,k⟩
theorem sd_d{p:Prop}[Decidable p]{K:Prop}(h:p)(k:K):Sd (decide p) K:=by unfold Sd;exact ⟨decide_eq_true h,k⟩
theorem sd_du{p:Prop}[Decidable p]{size:Nat}{xs:List D}{K:Prop}(h:p)(hu:Uni size xs)(k:K):Sd (decide p&&uniB size xs) K:=by
 unfold Sd;exact ⟨by simp [h,uniB_eq.2 hu],k⟩
theorem sd_app{p:Prop}[Decidable p]{size:Nat}{xs ys:List D}{K:Prop}(hu:Uni size xs)(hv:Uni size ys)(h:p)(k:K):Sd (uniB size xs&&(uniB size ys&&decide p)) K:=by
 unfold Sd;exact ⟨by simp [h,uniB_eq.2 hu,uniB_eq.2 hv],k⟩
theorem sd_dd{p q:Prop}[Decidable p][Decidable q]{K:Prop}(h:p)(h2:q)(k:K):Sd (decide p&&decide q) K:=by
 unfold Sd;exact ⟨by simp [h,h2],k⟩
theorem idx_intro{cells:Nat}{xs:List D}{n:Int}{K:D→Prop}(x:D)(h:xs[n.toNat]? =some x)(h0:0≤n)(hu:Uni cells xs)(k:K (.p 0 x.cells)):IdxG cells xs n K:=by
 unfold IdxG;exact ⟨x,h,h0,hu,k⟩
theorem rld_intro{agg:Bool}{cells size:Nat}{xs:List D}{off i r:Nat}{K:D→Prop}(x d:D)(hx:xs[i]? =some x)(ho:off=i*size+r)(hr:r<size)(hu:Uni size xs)(hd:partZ agg cells x.cells r=some d)(k:K d):
  RldG agg cells size xs off K:=by unfold RldG;exact ⟨i,r,x,d,ho,hr,hx,hu,hd,k⟩
theorem rst_intro{cells size:Nat}{xs:List D}{off:Nat}{d:D}{K:List D→Prop}(xs':List D)(h:setElem size xs off d.cells=some xs')(hc:d.cells.length=cells)(hu:Uni size xs)(h0:0<size)(k:K xs'):RstG cells size xs off d K:=by
 unfold RstG;exact ⟨xs',h,hc,hu,h0,k⟩
theorem rst_one{cells i:Nat}{xs:List D}{v:Value}{K:List D→Prop}(hi:i<xs.length)(hs: ∀x∈xs,∃u,x= .v u)(hc:cells=1)(k:K (xs.set i (.v v))):RstG cells 1 xs (i*1) (.v v) K:=by
 refine rst_intro _ ?_ (by rw [hc];rfl) (fun x hx=> ?_) (by omega) k
 ·have h1:i*1/1=i:=by simp
  have h2:xs[i]? =some xs[i] :=List.getElem?_eq_getElem hi
  obtain ⟨u,hu⟩:=hs _ (List.getElem_mem hi)
  simp [setElem,h2,hu,D.cells]
 ·obtain ⟨u,rfl⟩:=hs x hx;rfl
theorem callv_data{P:Program}{g:FuncId}{ds:List D}{t:List B}{K:Look→S→Option (Nat×B)→Prop}{res:List D}(h:Fun P g ds res)(k:K ⟨[],none⟩ (resS res) none):CallV P g ds t K:=by
 unfold CallV;exact .inl ⟨res,h,k⟩
theorem safe_intro{ops:Array Oper}{ls:List Look}{K:Prop}(h:safeB ops ls=true)(k:K):SafeG ops ls K:=by unfold SafeG;exact ⟨h,k⟩
theorem okc_intro{P:Program}{c:Code}{st:St}{K:Ex→St→Prop}(h:Ok P c st K):OkC P c st K:=by unfold OkC;exact h
def eqLP(f:D→D→Prop):List D→List D→Prop
 | [], [] =>True
 |x::xs,y::ys=>f x y∧eqLP f xs ys
 |_,_=>False
def eqVP(x y:Value):Prop:=
 match x,y with
 | .int k a,.int k' b=>match Nat.beq (ikc k) (ikc k') with|true=>a=b|false=>False
 | .string a,.string b=>a=b
 | .bool a,.bool b=>a=b
 |x,y=>x=y
def eqDn:Nat→D→D→Prop
 |0,x,y=>x=y
 |n+1,x,y=>match x,y with
  | .v x,.v y=>eqVP x y
  | .l a,.l b=>a=b
  | .a a,.a b=>eqLP (eqDn n) a b
  |x,y=>x=y
def eqDP(x y:D):Prop:=eqDn 4 x y
theorem eqDn_eq: ∀(n:Nat) (x y:D),eqDn n x y→x=y:=by
 intro n
 induction n with
 |zero=>intro x y h;exact h
 |succ n ih=>
  have hl: ∀xs ys:List D,eqLP (eqDn n) xs ys→xs=ys:=by
   intro xs
   induction xs with
   |nil=>
    intro ys h
    cases ys with
    |nil=>rfl
    |cons=>simp [eqLP] at h
   |cons x xs ihx=>
    intro ys h
    cases ys with
    |nil=>simp [eqLP] at h
    |cons y ys=>
     simp only [eqLP] at h
     rw [ih x y h.1,ihx ys h.2]
  intro x y h
  unfold eqDn at h
  split at h
  ·unfold eqVP at h
   split at h
   ·split at h
    ·rename_i hk;rw [ikc_inj hk,h]
    ·exact h.elim
   ·rw [h]
   ·rw [h]
   ·rw [h]
  ·rw [h]
  ·rw [hl _ _ h]
  ·exact h
theorem eqDP_eq{x y:D}(h:eqDP x y):x=y:=eqDn_eq 4 x y h
def resX(T:Tb)(st:St):ResultVar→Option D
 | .tmp k=>toDX st.t 4 (lk st.env k)
 | .cell k ty=>match tinfo T ty with
  |some i=>match lk st.env k with
   | .ptr b ver off=>match tatX st.t b with
    | .box _ cs=>match Nat.beq ver 0 with|true=>(match partSX i cs off with|some s=>toDX st.t 4 s|none=>none)|false=>none
    |_=>none
   | .d (.p off cs)=>partX i cs off
   |_=>none
  |none=>none
theorem resX_eq{P:Program}{T:Tb}(hT:TbOk P T)(st:St)(r:ResultVar)(d:D)(h:resX T st r=some d):resOf P st r=some d:=by
 cases r with
 |tmp k=>simp only [resX] at h;simp only [resOf];rw [lk_eq] at h;exact toDX_eq _ _ _ _ h
 |cell k ty=>
  simp only [resX] at h
  simp only [resOf]
  split at h
  ·rename_i i hi
   have hi:=hT ty i hi
   rw [if_pos hi.und]
   rw [lk_eq,tatX_eq] at h
   split at h
   ·rename_i b ver off hk
    rw [hk]
    simp only
    split at h
    ·rename_i bt cs hb
     rw [hb]
     split at h
     ·rename_i h1
      split at h
      ·rename_i s hs
       rw [partSX_eq hi] at hs
       simp only
       rw [if_pos (Nat.eq_of_beq_eq_true h1),hs]
       exact toDX_eq _ _ _ _ h
      ·simp at h
     ·simp at h
    ·simp at h
   ·rename_i off cs hk
    rw [hk];rw [partX_eq hi] at h;exact h
   ·simp at h
  ·simp at h
def resK(T:Tb)(st:St):List ResultVar→List D→Prop
 | [], [] =>True
 |r::rs,x::xs=>(match resX T st r with|some d=>eqDP d x|none=>False)∧resK T st rs xs
 |_,_=>False
theorem resK_eq{P:Program}{T:Tb}(hT:TbOk P T){st:St}: ∀{rs:List ResultVar} {xs:List D},resK T st rs xs→rs.mapM (resOf P st)=some xs
 | [], [],_=>by simp
 |r::rs,x::xs,h=>by
  obtain ⟨h1,h2⟩:=h
  split at h1
  ·rename_i d hd
   rw [List.mapM_cons,resX_eq hT _ _ _ hd,resK_eq hT h2,eqDP_eq h1];rfl
  ·exact h1.elim
 | [],_::_,h=>h.elim
 |_::_, [],h=>h.elim
def tops:Nat→List S
 |0=> []
 |n+1=> .top::tops n
theorem tops_eq: ∀n,tops n=List.replicate n .top
 |0=>rfl
 |n+1=>by rw [tops,tops_eq n];rfl
def argsX:List D→List S
 | [] => []
 |d::ds=> .d d::argsX ds
def appX':List S→List S→List S
 | [],ys=>ys
 |x::xs,ys=>x::appX' xs ys
def startX(args:List D)(ntmps:Nat):St:=⟨appX' (argsX args) (tops (ntmps-len' args)), []⟩
theorem startX_eq:startX=startSt:=by
 funext a n
 have h1: ∀xs ys,appX' xs ys=xs++ys:=by intro xs ys;induction xs<;>simp [appX', *]
 have h2: ∀ds,argsX ds=ds.map .d:=by intro ds;induction ds<;>simp [argsX, *]
 simp [startX,startSt,tops_eq,h1,h2,len'_eq]
def FunQ(P:Program)(g:FuncId)(args:List D)(Q:List D→Prop):Prop:=HasBody P g∧
 ∀(w:World) (ok:Nat→Prop) (us:List Value),DenL w ok args us→
  Calls P g us.toArray w fun e w'=> ∃v res,e= .returned v∧Q res∧RetDen w' (fun b=>ok b∨w.heap.size≤b) res v∧Below w.heap.size w w'
theorem FunQ.fn{P:Program}{g:FuncId}{args res:List D}(h:FunQ P g args (· =res)):Fun P g args res:=
 ⟨h.1,fun w ok us hd=>(h.2 w ok us hd).mono fun e w' ⟨v,r,h1,h2,h3,h4⟩=>⟨v,h1,by rw [←h2];exact h3,h4⟩⟩
def FinQ(T:Tb)(rs:List ResultVar)(Q:List D→Prop)(e:Ex)(st:St):Prop:=
 match e with
 | .exit _=>False
 |_=> ∃res,resK T st rs res∧Q res
def FinK(T:Tb)(rs:List ResultVar)(res:List D)(e:Ex)(st:St):Prop:=
 match e with
 | .exit _=>False
 |_=>resK T st rs res
theorem funq_of_ok{P:Program}{T:Tb}{g:FuncId}{fn:Func}{c:Code}{args:List D}{Q:List D→Prop}(hm:P.follows .mixedOrders=true)(hT:TbOk P T)(hf:P.funcs[g]? =some fn)(hb:fn.body=some c)(hn:(fn.name== "runtime.NumGoroutine")=false)
  (h:Ok P c (startX args fn.ntmps) (FinQ T fn.results.toList Q)):FunQ P g args Q:=by
 rw [startX_eq] at h
 refine ⟨⟨fn,hf,by rw [hb];rfl,hn⟩,fun w ok us hd=> ?_⟩
 refine (callsIn_wide (n:=0)).1 (callsIn_of_wp_marks (F:=FW none) hf hb (FW.fn none g) ?_ rfl)
 let old:Nat→Prop:=fun b=>b<w.heap.size
 let bs:Nat→Prop:=fun b=>ok b∨w.heap.size≤b
 have hrel:Rel old bs ⟨w,fun _=>⟨[],0,0,0⟩,none⟩ (fun _=>undef) (startSt args fn.ntmps) {tmps:=us.toArray++Array.replicate (fn.ntmps-us.toArray.size) undef,defers:= [] } w:=rel_start hd
 refine wpIn_mono (h 0 old bs _ _ w _ hrel) ?_
 rintro e a' W' ⟨x,st,ι,rfl,hfin,hr⟩
 have hx:x= .ret∨x= .normal:=by cases x<;>simp [FinQ] at hfin ⊢
 obtain ⟨res,hres,hQ⟩: ∃res,fn.results.toList.mapM (resOf P st)=some res∧Q res:=by
  cases x with
  |exit i=>exact hfin.elim
  |normal=>obtain ⟨res,h1,h2⟩:=hfin;exact ⟨res,resK_eq hT h1,h2⟩
  |ret=>obtain ⟨res,h1,h2⟩:=hfin;exact ⟨res,resK_eq hT h1,h2⟩
 have hout:=hr.out (n:=0) (P:=P) (fn:=fn) (R:=fun e w'=> ∃v res,e= .returned v∧Q res∧RetDen w' (fun b=>ok b∨w.heap.size≤b) res v∧Below w.heap.size w w') fun W2 hr=>by
  obtain ⟨v,hrun,hret⟩:=run_results hr hres
  exact ⟨v,hrun,v,res,rfl,hQ,hret,⟨hr.fr.os,hr.fr.tape,hr.fr.output,hr.fr.size,hr.fr.block⟩⟩
 rcases hx with rfl|rfl
 ·exact hout
 ·exact hout
theorem fun_of_go{P:Program}{T:Tb}{g:FuncId}{fn:Func}{c:Code}{args res:List D}(mu:Tmp→Bool)(hm:P.follows .mixedOrders=true)(hT:TbOk P T)(hf:P.funcs[g]? =some fn)(hb:fn.body=some c)(hn:(fn.name== "runtime.NumGoroutine")=false)
  (h:go P T mu c (startX args fn.ntmps) (FinK T fn.results.toList res)):Fun P g args res:=by
 have h:=ok_go hm hT c _ _ h
 refine FunQ.fn ?_
 have h2:Ok P c (startX args fn.ntmps) (FinQ T fn.results.toList (· =res)):=h.mono fun e st hk=>by
  cases e with
  |exit i=>exact hk
  |normal=>exact ⟨res,hk,rfl⟩
  |ret=>exact ⟨res,hk,rfl⟩
 exact funq_of_ok hm hT hf hb hn h2
def eqSP:S→S→Prop
 | .d x,.d y=>eqDP x y
 | .own k v,.own k' v'=>match Nat.beq k k' with|true=>(match Nat.beq v v' with|true=>True|false=>v=v')|false=>False
 | .ptr k v o,.ptr k' v' o'=>match Nat.beq k k' with|true=>(match Nat.beq v v' with|true=>o=o'|false=>False)|false=>False
 |x,y=>x=y
theorem eqSP_eq{x y:S}(h:eqSP x y):x=y:=by
 unfold eqSP at h
 split at h
 ·rw [eqDP_eq h]
 ·split at h
  ·rename_i h1
   rw [Nat.eq_of_beq_eq_true h1]
   split at h
   ·rename_i h2;rw [Nat.eq_of_beq_eq_true h2]
   ·rw [h]
  ·exact h.elim
 ·split at h
  ·rename_i h1
   rw [Nat.eq_of_beq_eq_true h1]
   split at h
   ·rename_i h2;rw [Nat.eq_of_beq_eq_true h2,h]
   ·exact h.elim
  ·exact h.elim
 ·exact h
def leX:List S→List S→Prop
 | [], [] =>True
 |s::ss,s'::ss'=>match s' with
  | .top=>leX ss ss'
  |s'=>eqSP s s'∧leX ss ss'
 |_,_=>False
theorem leX_eq: ∀{ss ss':List S},leX ss ss'→LeL ss ss'
 | [], [],_=>trivial
 |s::ss,s'::ss',h=>by
  unfold leX at h
  unfold LeL
  split at h
  ·exact ⟨trivial,leX_eq h⟩
  ·rename_i hne
   refine ⟨?_,leX_eq h.2⟩
   have:=eqSP_eq h.1
   cases s' with
   |top=>exact absurd rfl hne
   |_=>exact this
 | [],_::_,h=>h.elim
 |_::_, [],h=>h.elim
def eqBP:B→B→Prop
 | .row v e s b xs,.row v' e' s' b' xs'=>v=v'∧e=e'∧s=s'∧b=b'∧xs=xs'
 | .box t cs,.box t' cs'=>t=t'∧go cs cs'
 |x,y=>x=y
where go:List S→List S→Prop
 | [], [] =>True
 |x::xs,y::ys=>eqSP x y∧go xs ys
 |_,_=>False
theorem eqBP_eq{x y:B}(h:eqBP x y):x=y:=by
 have hl: ∀xs ys,eqBP.go xs ys→xs=ys:=by
  intro xs
  induction xs with
  |nil=>intro ys h;cases ys with
   |nil=>rfl
   |cons=>simp [eqBP.go] at h
  |cons x xs ih=>intro ys h;cases ys with
   |nil=>simp [eqBP.go] at h
   |cons y ys=>obtain ⟨h1,h2⟩:=h;rw [eqSP_eq h1,ih _ h2]
 unfold eqBP at h
 split at h
 ·obtain ⟨rfl,rfl,rfl,rfl,rfl⟩:=h;rfl
 ·obtain ⟨rfl,h⟩:=h;rw [hl _ _ h]
 ·exact h
def leT:List B→List B→Prop
 | [], [] =>True
 |x::xs,y::ys=>eqBP x y∧leT xs ys
 |_,_=>False
theorem leT_eq: ∀{xs ys:List B},leT xs ys→xs=ys
 | [], [],_=>rfl
 |x::xs,y::ys,h=>by rw [eqBP_eq h.1,leT_eq h.2]
 | [],_::_,h=>h.elim
 |_::_, [],h=>h.elim
theorem weak_x{env env':List S}{t t':List B}(ht:leT t t')(h:leX env env'):Weak ⟨env,t⟩ ⟨env',t'⟩:=weak_le (leT_eq ht) (leX_eq h)
def fr(n:Nat):List (Nat×S)→List S
 | [] =>tops n
 |(i,s)::xs=>st1 (fr n xs) i s
end Go.Nv
end
section
namespace Go.Nv
open Go.RowKit
def lpX(Kn:St→Prop)(K:Ex→St→Prop)(e:Ex)(st:St):Prop:=match e with
 | .normal=>Kn st
 | .exit i=>K (.exit i) st
 | .ret=>K .ret st
section
variable {P:Program} {T:Tb} {st:St} {K:Ex→St→Prop} {body:Code}
theorem loop_intro{α:Type}(mu:Tmp→Bool)(I:α→St)(inv:α→Prop)(μ:α→Nat)(x0:α)(hm:P.follows .mixedOrders=true)(hT:TbOk P T)(h0:inv x0)(hw:Weak st (I x0))
  (h: ∀x,inv x→go P T mu body (I x) (lpX (fun st'=> ∃y,inv y∧μ y<μ x∧Weak st' (I y)) K)):OkC P (.loop body) st K:=by
 refine okc_intro (ok_loop (fun x:{x:α//inv x}=>I x.1) (fun x=>μ x.1) ⟨x0,h0⟩ hw ?_)
 rintro ⟨x,hx⟩
 refine (ok_go hm hT body _ _ (h x hx)).mono ?_
 rintro e st' hk
 cases e with
 |normal=>obtain ⟨y,h1,h2,h3⟩:=hk;exact ⟨⟨y,h1⟩,h2,h3⟩
 |exit i=>exact hk
 |ret=>exact hk
end
end Go.Nv
end
section
namespace Go.Nv
open Go.RowKit
def frzO(k ver:Nat)(xs:List D):S→S
 | .own j v=>match Nat.beq j k with|true=>(match Nat.beq v ver with|true=> .d (.l xs)|false=> .top)|false=> .own j v
 | .ptr j v o=>match Nat.beq j k with|true=> .top|false=> .ptr j v o
 | .d x=> .d x
 |_=> .top
def frzN(k ver:Nat)(xs:List D):Nat→S→S
 |0,s=>frzO k ver xs s
 |n+1,s=>match s with
  | .agg cs=>aggS (cs.map (frzN k ver xs n))
  | .clo g cs=> .clo g (cs.map (frzN k ver xs n))
  | .tup cs=> .tup (cs.map (frzN k ver xs n))
  |s=>frzO k ver xs s
def frzB(k ver:Nat)(xs:List D):B→B
 | .box t cs=> .box t (cs.map (frzN k ver xs 2))
 | .ghost cs=> .ghost (cs.map (frzN k ver xs 3))
 | .loop s pend ps asg body cs=> .loop s pend ps asg body (cs.map (frzN k ver xs 3))
 |b=>b
def frzT(k ver:Nat)(xs:List D):Nat→List B→List B
 |_, [] => []
 |i,b::t=>(match Nat.beq i k with|true=> .dead|false=>frzB k ver xs b)::frzT k ver xs (i+1) t
def frzSt(k:Nat)(st:St):St:=
 match tatX st.t k with
 | .row ver _ size _ xs=>match Nat.blt 0 size with
  |true=>⟨st.env.map (frzN k ver xs 3),frzT k ver xs 0 st.t⟩
  |false=>st
 |_=>st
theorem frzT_at(k ver:Nat)(xs:List D): ∀(t:List B) (i j:Nat),tat (frzT k ver xs i t) j=if i+j=k∧j<t.length then .dead else frzB k ver xs (tat t j)
 | [],i,j=>by simp [frzT,tat,frzB]
 |b::t,i,j=>by
  cases j with
  |zero=>
   simp only [frzT,tat,List.getD_eq_getElem?_getD,List.getElem?_cons_zero,Option.getD_some,Nat.add_zero,List.length_cons]
   cases h:Nat.beq i k with
   |true=>have:=Nat.eq_of_beq_eq_true h;simp [this]
   |false=>
    have:i≠k:=fun e=>by subst e;rw [Nat.beq_refl] at h;simp at h
    simp [this]
  |succ j=>
   have:=frzT_at k ver xs t (i+1) j
   have e:tat (frzT k ver xs i (b::t)) (j+1)=tat (frzT k ver xs (i+1) t) j:=by simp [frzT,tat]
   have e2:tat (b::t) (j+1)=tat t j:=by simp [tat]
   rw [e,e2,this]
   simp only [List.length_cons]
   by_cases h:i+1+j=k∧j<t.length
   ·rw [if_pos h,if_pos ⟨by omega,by omega⟩]
   ·rw [if_neg h,if_neg (fun h'=>h ⟨by omega,by omega⟩)]
section
variable {W:World} {old bs:Nat→Prop} {ι:Nat→Value} {τ:Nat→B}
theorem allD_of{W:World}{ι:Nat→Value}{vr:Nat→Option (Option Nat)}{ok:Nat→Prop}{ss:List S}{us:List Value}(h:SDenL W ι vr ok ss us)(h1: ∀(i:Nat) (u:Value),us[i]? =some u→u.oneCell'=true):SDen W ι vr ok (aggS ss) (.agg us.toArray):=by
 unfold aggS
 split
 ·rename_i ds hds
  have:=allD_some hds
  subst this
  exact .d (.a h.inv.1 h.inv.2 h1)
 ·exact .agg h.1 h.2 h1
theorem frz_den(hT:TOk W old bs ι τ)(hN:OldIn old W){k ver:Nat}{e:TypeId}{size bytes:Nat}{xs:List D}(hk:τ k= .row ver e size bytes xs)(h0:0<size):
  ∀(n:Nat) (s:S) (v:Value),SDen W ι (verT τ) (okT bs τ ι) s v→SDen W ι (verT (at_ τ k .dead)) (okT bs (at_ τ k .dead) ι) (frzN k ver xs n s) v:=by
 have hst:=frz_step hT hN k (by rw [hk];rfl)
 have hO: ∀(s:S) (v:Value),SDen W ι (verT τ) (okT bs τ ι) s v→SDen W ι (verT (at_ τ k .dead)) (okT bs (at_ τ k .dead) ι) (frzO k ver xs s) v:=by
  intro s v hs
  unfold frzO
  split
  ·rename_i j v'
   split
   ·rename_i hj
    have hj:=Nat.eq_of_beq_eq_true hj
    subst hj
    split
    ·rename_i hv
     have hv:=Nat.eq_of_beq_eq_true hv
     subst hv
     have:=sd_own hs (verT_row hk)
     subst this
     exact .d (row_data hT hk h0)
    ·exact .top
   ·exact hst.sden hs
  ·split
   ·exact .top
   ·exact hst.sden hs
  ·exact hst.sden hs
  ·exact .top
 intro n
 induction n with
 |zero=>exact hO
 |succ n ih=>
  have hL: ∀(ss:List S) (us:List Value),SDenL W ι (verT τ) (okT bs τ ι) ss us→SDenL W ι (verT (at_ τ k .dead)) (okT bs (at_ τ k .dead) ι) (ss.map (frzN k ver xs n)) us:=by
   intro ss us h
   refine ⟨by simp [h.1],fun i c u hc hu=> ?_⟩
   rw [List.getElem?_map] at hc
   cases hq:ss[i]? with
   |none=>simp [hq] at hc
   |some q=>simp [hq] at hc;subst hc;exact ih _ _ (h.2 i q u hq hu)
  intro s v hs
  unfold frzN
  split
  ·rename_i cs
   obtain ⟨us,rfl,h2,h3⟩:=sd_agg hs
   exact allD_of (hL _ _ h2) h3
  ·rename_i g cs
   cases hs with
   |clo hl hh=>
    have:=hL _ _ ⟨hl,hh⟩
    exact .clo this.1 this.2
  ·rename_i cs
   obtain ⟨us,rfl,h2⟩:=sd_tup hs
   have:=hL _ _ h2
   exact .tup this.1 this.2
  ·exact hO _ _ hs
theorem weak_frz(k:Nat)(st:St):Weak st (frzSt k st):=by
 intro old bs w0 a W ι hr
 unfold frzSt
 rw [tatX_eq]
 split
 ·rename_i ver e size bytes xs hk
  split
  ·rename_i h0
   have h0:=blt_lt h0
   have hkt:k<st.t.length:=by
    rcases Nat.lt_or_ge k st.t.length with h|h
    ·exact h
    ·rw [tat,List.getD_eq_getElem?_getD,List.getElem?_eq_none h] at hk;simp at hk
   have hat: ∀j,tat (frzT k ver xs 0 st.t) j=if j=k then .dead else frzB k ver xs (tat st.t j):=by
    intro j
    rw [frzT_at]
    simp only [Nat.zero_add]
    by_cases h:j=k
    ·subst h;simp [hkt]
    ·simp [h]
   have hver:verT (tat (frzT k ver xs 0 st.t))=verT (at_ (tat st.t) k .dead):=by
    funext j
    unfold verT
    rw [hat j];unfold at_
    split
    ·rfl
    ·cases tat st.t j<;>rfl
   have hlive: ∀j,(tat (frzT k ver xs 0 st.t) j).live=(at_ (tat st.t) k .dead j).live:=by
    intro j
    rw [hat j];unfold at_
    split
    ·rfl
    ·cases tat st.t j<;>rfl
   have hokT:okT bs (tat (frzT k ver xs 0 st.t)) ι=okT bs (at_ (tat st.t) k .dead) ι:=by
    funext b
    unfold okT
    simp only [hlive]
   have hloop: ∀j,(tat (frzT k ver xs 0 st.t) j).isLoop=true→(tat st.t j).isLoop=true:=by
    intro j hj
    rw [hat j] at hj
    split at hj
    ·simp [B.isLoop] at hj
    ·cases hq:tat st.t j<;>rw [hq] at hj<;>simp_all [frzB,B.isLoop]
   have hL: ∀{cs:List S} {us:List Value},SDenL W ι (verT (tat st.t)) (okT bs (tat st.t) ι) cs us→SDenL W ι (verT (tat (frzT k ver xs 0 st.t))) (okT bs (tat (frzT k ver xs 0 st.t)) ι) (cs.map (frzN k ver xs 3)) us:=by
    intro cs us ho
    rw [hver,hokT]
    refine ⟨by simp [ho.1],fun i c u hc hu=> ?_⟩
    rw [List.getElem?_map] at hc
    cases hq:cs[i]? with
    |none=>simp [hq] at hc
    |some q=>simp [hq] at hc;subst hc;exact frz_den hr.tok hr.oldIn hk h0 3 _ _ (ho.2 i q u hq hu)
   refine ⟨ι,hr.defers,hr.oldIn,hr.fr, ?_,hL hr.env,fun j=> ?gh,fun i j hi hj=>hr.lap i j (hloop i hi) (hloop j hj),hr.rnd⟩
   case gh=>
    have hg:=hr.gh j
    show GhOk W old ι (verT (tat (frzT k ver xs 0 st.t))) (okT bs (tat (frzT k ver xs 0 st.t)) ι) (w0.gs j) j (tat (frzT k ver xs 0 st.t) j)
    rw [hat j]
    split
    ·trivial
    ·cases hq:tat st.t j with
     |ghost cs=>rw [hq] at hg;exact hL hg
     |loop s pend ps asg body cs=>
      rw [hq] at hg
      obtain ⟨h1,h2,h3,h4,h5⟩:=hg
      refine ⟨h1, ?_,h3,h4,hL h5⟩
      rw [hokT]
      have hst:=frz_step hr.tok hr.oldIn k (by rw [hk];rfl)
      exact hst.ok _ h2 (Array.getElem?_eq_some_iff.1 h4).1
     |_=>trivial
   ·have hst:=frz_step hr.tok hr.oldIn k (by rw [hk];rfl)
    have hkt:k<st.t.length:=by
     rcases Nat.lt_or_ge k st.t.length with h|h
     ·exact h
     ·rw [tat,List.getD_eq_getElem?_getD,List.getElem?_eq_none h] at hk;simp at hk
    have hat: ∀j,tat (frzT k ver xs 0 st.t) j=if j=k then .dead else frzB k ver xs (tat st.t j):=by
     intro j
     rw [frzT_at]
     simp only [Nat.zero_add]
     by_cases h:j=k
     ·subst h;simp [hkt]
     ·simp [h]
    have hlive: ∀j,(tat (frzT k ver xs 0 st.t) j).live=(at_ (tat st.t) k .dead j).live:=by
     intro j
     rw [hat j];unfold at_
     split
     ·rfl
     ·cases tat st.t j<;>rfl
    have hver:verT (tat (frzT k ver xs 0 st.t))=verT (at_ (tat st.t) k .dead):=by
     funext j
     unfold verT
     rw [hat j];unfold at_
     split
     ·rfl
     ·cases tat st.t j<;>rfl
    have hokT:okT bs (tat (frzT k ver xs 0 st.t)) ι=okT bs (at_ (tat st.t) k .dead) ι:=by
     funext b
     unfold okT
     simp only [hlive]
    refine ⟨hr.tok.bsn,fun j=> ?_,fun i j b hi hj=>by rw [hlive] at hi hj;exact hst.tok.apart i j b hi hj⟩
    have he:=hst.tok.ent j
    rw [hver,hokT,hat j]
    by_cases h:j=k
    ·rw [if_pos h];trivial
    ·rw [if_neg h]
     rw [at_ne _ _ h] at he
     cases hb:tat st.t j with
     |box t cs=>
      have ho:=hr.tok.ent j
      rw [hb] at ho
      obtain ⟨b,us,h1,h2,h3,h4,h5⟩:=ho
      refine ⟨b,us,h1,h2,h3,⟨by simp [h4.1],fun i c u hc hu=> ?_⟩,h5⟩
      rw [List.getElem?_map] at hc
      cases hq:cs[i]? with
      |none=>simp [hq] at hc
      |some q=>simp [hq] at hc;subst hc;exact frz_den hr.tok hr.oldIn hk h0 2 _ _ (h4.2 i q u hq hu)
     |row v' e' s' b' xs'=>rw [hb] at he;exact he
     |dead=>trivial
     |ghost cs=>trivial
     |loop=>rw [hb] at he;exact he
     |gone=>trivial
  ·exact ⟨ι,hr⟩
 ·exact ⟨ι,hr⟩
theorem call_frz{P:Program}{f:Operand}{args:List Operand}{dst:Option Tmp}{st:St}{K:St→Prop}(k:Nat)(h:CallK P f args dst (frzSt k st) K):CallK P f args dst st K:=by
 unfold CallK at*
 exact fun o ho hd=>(h o ho hd).weak (weak_frz k st)
end
end Go.Nv
end
