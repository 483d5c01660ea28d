/- The most general unifier within the limits. -/
import Derived.Deep.LoopGhost
import Derived.Test.YtohaalphocaebaaGreatZ1
set_option linter.all false
set_option maxHeartbeats 4000000
open Array renaming getElem?_toList→tg
open Bool renaming and_eq_true→cA,false_eq_true→gT,or_eq_true→lF
open Decidable renaming not_not→asY
open Go renaming Program→cB,TypeId→fV
open Go.IntKind renaming bits→nO,signed→r1,u64→hj,wrap→r2
open Go.IntWalk renaming i64_in→oF
open Go.Op renaming bytesLess→hr
open Go.Region renaming wanted→oG
open Go.Result renaming andThen_ok→fJ
open Go.Sem renaming run_bind→fF,run_pure→gq
open Go.Value renaming cells→oH
open List renaming all_eq_true→ir,cons_append→bP,drop_eq_getElem_cons→k5,getElem?_eq_getElem→cf,getElem?_eq_none→p5,getElem?_eq_some_iff→fw,length_append→oI,length_cons→oJ,length_map→p6,map_cons→gM,map_nil→mz,mem_append→jP,mem_cons→fK,mem_cons_of_mem→oK,mem_filter→nk,mem_map→iO,nil_append→bX,pairwise_cons→mA,pairwise_iff_getElem→pt
open List.Nodup renaming length_le_of_subset→M6
open List.Pairwise renaming imp_of_mem→anz,nil→as5
open List.Perm renaming eq_of_pairwise→M7
open List.cons renaming injEq→nQ
open Nat renaming le_refl→eV,le_trans→j4
open Ne renaming symm→kL
open Option renaming bind_some→kM,getD_none→nl,getD_some→k7,isSome_iff_exists→fL,isSome_none→l0,map_eq_some_iff→gN,map_some→nS
open Option.some renaming inj→fl,injEq→dE
open Prod.mk renaming injEq→jj
open _root_ renaming False→eR,Option→aY,UInt8→dz,beq_iff_eq→dL,congrArg→eZ,decide_eq_false→k8,decide_eq_false_iff_not→gr,decide_eq_true_eq→fm
namespace Go.Pv
open Go Go.RowKit
def ahc(A:de)(s ai:cE)(rm:aY aD):Prop:=(∀k,(look k ai.b).isSome→(look k s.b).isSome∨rm=some k)∧(∀k,(look k ai.e).isSome→(look k s.e).isSome∨rm=some k)∧(∀k,(look k s.b).isSome→(look k ai.b).isSome)∧(∀k,(look k s.e).isSome→(look k ai.e).isSome)∧
 (∀k,rm=some k→(∃j,k= .obj j)∧A.F k∧A.b k=none∧A.e k=none∧((look k ai.b).isSome∨(look k ai.e).isSome))
def XM(P:cB)(n:Nat)(args:List ah)(A:de)(d:aY Nat)(x:kv):Prop:=
 ∃s ai r rm,(∀k cs,look k s.b=some cs→A.b k=some cs∧aG (inObs s) cs)∧(∀k o,look k s.e=some o→A.e k=some o∧dR (inObs s) o)∧iJ s∧iJ ai∧ahc A s ai rm∧aG (inObs s) args∧
  bF P n args s (fun eF dG=>eF=r∧dG=ai)∧x=⟨d,r,ai.b,ai.e,rm⟩
def XN(P:cB)(n0 n:Nat)(args:List ah)(A:de)(d:aY Nat)(x:kv):Prop:=
 ∃cG r,d=some cG∧(A.F (.loc (n0+cG))∧A.b (.loc (n0+cG))=none∧A.e (.loc (n0+cG))=none)∧aG (fun _=>eR) args∧
  Hh P n (n0+cG) args ⟨[],[]⟩ (fun eF dG=>eF=r∧dG=⟨[],[]⟩)∧x=⟨d,r,[],[],some (.loc (n0+cG))⟩
def xE:ah→Bool
 | .ptr (.loc _) _=>true
 | .eptr _=>true
 |_=>false
def fP.isB:fP→Bool
 | .loadB _ _ _=>true
 | .mgetB _ _ _ _ _=>true
 |_=>false
def fP.ptrOf(t:Nat→ah):fP→ah
 | .load _ _ x=>dv t x
 | .loadB _ _ x=>dv t x
 |_=>.junk
def ep(P:cB)(q:Bool)(n0:Nat):ee→de→kv→Prop
 | .s (.v d i),A,x=> ∃c p,ps A.t A.b A.e i=some (c,p)∧c∧(i.isLoad=true→i.isB=true∨q=true∨xE (i.ptrOf A.t)=true)∧x=⟨some d,p,[],[],none⟩
 | .s (.box d none v),A,x=>(A.F (.loc (n0+d))∧A.b (.loc (n0+d))=none∧A.e (.loc (n0+d))=none)∧dY (dv A.t v)=true∧x=⟨some d,.ptr (.loc (n0+d)) 0,[(.loc (n0+d),cells (dv A.t v))],[],some (.loc (n0+d))⟩
 | .s (.alloc d none z),A,x=>(A.F (.loc (n0+d))∧A.b (.loc (n0+d))=none∧A.e (.loc (n0+d))=none)∧x=⟨some d,.ptr (.loc (n0+d)) 0,[(.loc (n0+d),cells z)],[],some (.loc (n0+d))⟩
 | .s (.store sz u v),A,x=> ∃k off cs,dv A.t u= .ptr k off∧A.b k=some cs∧(gn cs=true∧dY (dv A.t v)=true∧(cells (dv A.t v)).length=sz∧off+sz≤cs.length)∧x=⟨none,.junk,[(k,nH cs off (cells (dv A.t v)))],[],none⟩
 | .s (.bsl d sz el xs),A,x=>(A.F (.loc (n0+d))∧A.b (.loc (n0+d))=none∧A.e (.loc (n0+d))=none)∧sb sz (xs.map (dv A.t))∧x=⟨some d,.slice sz (.own (.loc (n0+d))) (xs.map (dv A.t)),[],[(.loc (n0+d),⟨xs.length,el,sz,none⟩)],some (.loc (n0+d))⟩
 | .s (.app d sz el u v),A,x=> ∃tag xs kH ys,dv A.t u= .slice sz tag xs∧dv A.t v= .slice sz kH ys∧
   ((∃k o,tag= .own k∧A.e k=some o∧(o.xs=none∧o.n=xs.length∧o.el=el∧o.sz=sz∧xs.length+ys.length≤lim)∧x=⟨some d,.slice sz (.own k) (xs++ys),[],[(k,⟨xs.length+ys.length,el,sz,none⟩)],none⟩)∨
    (tag= .nil∧ys.length≤lim∧(A.F (.loc (n0+d))∧A.b (.loc (n0+d))=none∧A.e (.loc (n0+d))=none)∧x=⟨some d,.slice sz (.own (.loc (n0+d))) ys,[],[(.loc (n0+d),⟨ys.length,el,sz,none⟩)],some (.loc (n0+d))⟩))
 | .s (.appm d _ sz el u v),A,x=> ∃k n xs kH ys,dv A.t u= .row sz k n∧dv A.t v= .slice sz kH ys∧A.e k=some ⟨n,el,sz,some xs⟩∧xs.length+ys.length≤lim∧x=⟨some d,.row sz k (xs.length+ys.length),[],[(k,⟨xs.length+ys.length,el,sz,some (xs++ys)⟩)],none⟩
 | .s (.storeE sz u v),A,x=> ∃k n i f el dD xs q,dv A.t u= .rptr dD k n i f∧A.e k=some ⟨n,el,dD,some xs⟩∧xs[i]? =some q∧(dY q=true∧dY (dv A.t v)=true∧(cells (dv A.t v)).length=sz∧f+sz≤(cells q).length∧0<sz)∧x=⟨none,.junk,[],[(k,⟨n,el,dD,some (xs.set i (mu q f (cells (dv A.t v))))⟩)],none⟩
 | .s (.mkmap d (some m)),A,x=>(A.F (.obj m)∧A.b (.obj m)=none∧A.e (.obj m)=none)∧x=⟨some d,.gmap (.obj m),[(.obj m,[.hdm 0 []])],[],some (.obj m)⟩
 | .s (.mput ca u k v),A,x=> ∃m cs cs',dv A.t u= .gmap m∧A.b m=some cs∧ou ca (dv A.t k) (dv A.t v) cs=some cs'∧x=⟨none,.junk,[(m,cs')],[],none⟩
 | .call d f xs,A,x=> ∃n da,dv A.t f= .func n da∧((XM P n (cY (xs.map (dv A.t)++da)) A d x∧(q=true→x.bw=[]∧x.ew=[]))∨XN P n0 n (cY (xs.map (dv A.t)++da)) A d x)
 |_,_,_=>eR
inductive AU where
 |v|l|n|s|w|a|c|m|r|k
 deriving DecidableEq
def ee.mode:ee→AU
 | .s (.v _ (.loadB _ _ _))=>.m
 | .s (.v _ (.mgetB _ _ _ _ _))=>.m
 | .s (.v _ i)=>if i.isLoad then .l else .v
 | .s (.storeE _ _ _)=>.r
 | .s (.box _ _ _)=>.n
 | .s (.alloc _ _ _)=>.n
 | .s (.store _ _ _)=>.w
 | .s (.bsl _ _ _ _)=>.s
 | .s (.app _ _ _ _ _)=>.a
 | .s (.bslm _ _ _ _ _)=>.w
 | .s (.mks _ _ _ _ _ _)=>.w
 | .s (.appm _ _ _ _ _ _)=>.r
 | .s (.mkmap _ _)=>.k
 | .s (.mput _ _ _ _)=>.w
 | .s (.range _ _ _)=>.w
 | .call _ _ _=>.c
 | .next _ _=>.w
structure Ht (q:Bool) (n0:Nat) (m:AU) (dst:aY Nat) (A:de) (x:kv):Prop where
 d:x.d=dst
 b:∀k,(look k x.bw).isSome→(m= .n∧∃d,dst=some d∧k= .loc (n0+d)∧A.b k=none∧A.e k=none)∨m= .w∨(m= .c∧(∃j,k= .obj j)∧q=false)∨(m= .k∧(∃j,k= .obj j)∧A.b k=none∧A.e k=none)
 e:∀k,(look k x.ew).isSome→(m= .s∧∃d,dst=some d∧k= .loc (n0+d)∧A.b k=none∧A.e k=none)∨(m= .a∧(A.e k≠none∨ ∃d,dst=some d∧k= .loc (n0+d)∧A.b k=none∧A.e k=none))∨(m= .c∧(∃j,k= .obj j)∧q=false)∨(m= .r∧∃o,A.e k=some o∧o.xs≠none)
 r:∀k,x.rm=some k→(∃d,dst=some d∧k= .loc (n0+d))∨((m= .c∨m= .k)∧(∃j,k= .obj j)∧((look k x.bw).isSome∨(look k x.ew).isSome))
 ex:m= .a→∀k o,(look k x.ew).isSome→A.e k=some o→o.xs=none
 xn:m= .a∨m= .s→∀k o,look k x.ew=some o→o.xs=none
theorem sO{α:Type}{k bM:aD}{x:α}(h:(look k [(bM,x)]).isSome):k=bM:=by
 simp only[look]at h;split at h
 ·rename_i e;exact e.symm
 ·cases h
theorem Ku{k bM:aD}{n el sz:Nat}{o:fM}(h:look k [(bM,(⟨n,el,sz,none⟩:fM))]=some o):o.xs=none:=by
 simp only[look]at h;split at h
 ·cases h;rfl
 ·cases h
theorem WO{P:cB}{q:Bool}{n0:Nat}{i:ee}{A:de}{x:kv}(h:ep P q n0 i A x):Ht q n0 i.mode i.dst A x:=by
 cases i with
 |s i=>
  cases i with
  |v d i=>simp only[ep]at h;obtain⟨c,p,_,_,_,rfl⟩:=h;exact⟨rfl,fun k ab=>by simp[look]at ab,fun k ab=>by simp[look]at ab,fun k ab=>by simp at ab,fun _ k o ab=>by simp[look]at ab,fun _ k o ab=>by simp[look]at ab⟩
  |box d key v=>
   cases key with
   |some m=>simp only[ep]at h
   |none=>simp only[ep]at h;obtain⟨⟨_,U,ao⟩,_,rfl⟩:=h;exact⟨rfl,fun k ab=>by obtain rfl:=sO ab;exact .inl ⟨rfl,d,rfl,rfl,U,ao⟩,fun k ab=>by simp[look]at ab,fun k ab=>by simp at ab;exact .inl ⟨d,rfl,ab.symm⟩,fun _ k o ab=>by simp[look]at ab,fun _ k o ab=>by simp[look]at ab⟩
  |alloc d key z=>
   cases key with
   |some m=>simp only[ep]at h
   |none=>simp only[ep]at h;obtain⟨⟨_,U,ao⟩,rfl⟩:=h;exact⟨rfl,fun k ab=>by obtain rfl:=sO ab;exact .inl ⟨rfl,d,rfl,rfl,U,ao⟩,fun k ab=>by simp[look]at ab,fun k ab=>by simp at ab;exact .inl ⟨d,rfl,ab.symm⟩,fun _ k o ab=>by simp[look]at ab,fun _ k o ab=>by simp[look]at ab⟩
  |store sz u v=>simp only[ep]at h;obtain⟨k,off,cs,_,_,_,rfl⟩:=h;exact⟨rfl,fun k ab=>.inr (.inl rfl),fun k ab=>by simp[look]at ab,fun k ab=>by simp at ab,fun _ k o ab=>by simp[look]at ab,fun _ k o ab=>by simp[look]at ab⟩
  |bsl d sz el xs=>simp only[ep]at h;obtain⟨⟨_,U,ao⟩,_,rfl⟩:=h;exact⟨rfl,fun k ab=>by simp[look]at ab,fun k ab=>by obtain rfl:=sO ab;exact .inl ⟨rfl,d,rfl,rfl,U,ao⟩,fun k ab=>by simp at ab;exact .inl ⟨d,rfl,ab.symm⟩,fun e=>by simp[ee.mode]at e,fun _ k o ab=>Ku ab⟩
  |app d sz el u v=>
   simp only[ep]at h;obtain⟨tag,xs,kH,ys,_,_,h⟩:=h;rcases h with⟨k,o,_,J,⟨gY,_⟩,rfl⟩|⟨_,_,⟨_,U,ao⟩,rfl⟩
   ·exact⟨rfl,fun k ab=>by simp[look]at ab,fun k ab=>by obtain rfl:=sO ab;exact .inr (.inl ⟨rfl,.inl (by rw[J];simp)⟩),fun k ab=>by simp at ab,fun _ bM o' ab av=>by obtain rfl:=sO ab;rw[J]at av;cases av;exact gY,fun _ k o ab=>Ku ab⟩
   ·exact⟨rfl,fun k ab=>by simp[look]at ab,fun k ab=>by obtain rfl:=sO ab;exact .inr (.inl ⟨rfl,.inr ⟨d,rfl,rfl,U,ao⟩⟩),fun k ab=>by simp at ab;exact .inl ⟨d,rfl,ab.symm⟩,fun _ bM o' ab av=>(by obtain rfl:=sO ab;rw[ao]at av;cases av),fun _ k o ab=>Ku ab⟩
  |bslm d key sz el xs=>simp only[ep]at h
  |mks d key sz el z x=>simp only[ep]at h
  |appm d key sz el u v=>simp only[ep]at h;obtain⟨k,n,xs,kH,ys,_,_,J,_,rfl⟩:=h;exact⟨rfl,fun k ab=>by simp[look]at ab,fun k ab=>by obtain rfl:=sO ab;exact .inr (.inr (.inr ⟨rfl,_,J,by simp⟩)),fun k ab=>by simp at ab,fun e=>by simp[ee.mode]at e,fun e=>by simp[ee.mode]at e⟩
  |storeE sz u v=>simp only[ep]at h;obtain⟨k,n,i,f,el,dD,xs,q,_,J,_,_,rfl⟩:=h;exact⟨rfl,fun k ab=>by simp[look]at ab,fun k ab=>by obtain rfl:=sO ab;exact .inr (.inr (.inr ⟨rfl,_,J,by simp⟩)),fun k ab=>by simp at ab,fun e=>by simp[ee.mode]at e,fun e=>by simp[ee.mode]at e⟩
  |mkmap d key=>
   cases key with
   |none=>simp only[ep]at h
   |some m=>simp only[ep]at h;obtain⟨⟨_,U,ao⟩,rfl⟩:=h;exact⟨rfl,fun k ab=>by obtain rfl:=sO ab;exact .inr (.inr (.inr ⟨rfl,⟨m,rfl⟩,U,ao⟩)),fun k ab=>by simp[look]at ab,fun k ab=>by simp at ab;subst ab;exact .inr ⟨.inr rfl,⟨m,rfl⟩,.inl (by simp[look])⟩,fun e=>by simp[ee.mode]at e,fun e=>by simp[ee.mode]at e⟩
  |mput ca x k v=>simp only[ep]at h;obtain⟨m,cs,cs',_,_,_,rfl⟩:=h;exact⟨rfl,fun k ab=>.inr (.inl rfl),fun k ab=>by simp[look]at ab,fun k ab=>by simp at ab,fun e=>by simp[ee.mode]at e,fun e=>by simp[ee.mode]at e⟩
  |range d key x=>simp only[ep]at h
 |next d x=>simp only[ep]at h
 |call d f xs=>
  simp only[ep]at h;obtain⟨n,da,_,h⟩:=h;rcases h with⟨⟨s,ai,r,rm,_,_,_,av,Sn,_,_,rfl⟩,br⟩|⟨cG,r,rfl,_,_,_,rfl⟩;rotate_left
  ·exact⟨rfl,fun k ab=>by simp[look]at ab,fun k ab=>by simp[look]at ab,fun k ab=>by simp at ab;exact .inl ⟨cG,rfl,ab.symm⟩,fun _ k o ab=>by simp[look]at ab,fun _ k o ab=>by simp[look]at ab⟩
  refine⟨rfl,fun k ab=>.inr (.inr (.inl ⟨rfl,?_,?_⟩)),fun k ab=>.inr (.inr (.inl ⟨rfl,?_,?_⟩)),fun k ab=>.inr ⟨.inl rfl,(Sn.2.2.2.2 k ab).1,(Sn.2.2.2.2 k ab).2.2.2.2⟩,fun e=>by simp[ee.mode]at e,fun e=>by simp[ee.mode]at e⟩
  ·cases k with
   |loc m=>rw[av.1 m]at ab;cases ab
   |obj m=>exact⟨m,rfl⟩
  ·cases q with
   |false=>rfl
   |true=>rw[(br rfl).1]at ab;simp[look]at ab
  ·cases k with
   |loc m=>rw[av.2 m]at ab;cases ab
   |obj m=>exact⟨m,rfl⟩
  ·cases q with
   |false=>rfl
   |true=>rw[(br rfl).2]at ab;simp[look]at ab
theorem Na{P:cB}{q:Bool}{n0:Nat}{i:ee}{A gb:de}{x:kv}(h:ep P q n0 i A x)(aL:qd i.looks A.t gb.t)
  (ar:i.mode= .l→∀k,(q=true∨ ∃m,k= .loc m)→A.b k≠none→gb.b k=A.b k) (Sc:i.mode= .m→∀k,A.b k≠none→gb.b k=A.b k)
  (kT:i.mode= .l→q=true→∀k o,A.e k=some o→o.xs≠none→gb.e k=some o)
  (aA:∀d,i.dst=some d→(i.mode= .n∨i.mode= .s∨i.mode= .a∨i.mode= .c)→(A.F (.loc (n0+d))∧A.b (.loc (n0+d))=none∧A.e (.loc (n0+d))=none)→(gb.F (.loc (n0+d))∧gb.b (.loc (n0+d))=none∧gb.e (.loc (n0+d))=none))
  (bD:i.mode= .a→∀k o,A.e k=some o→gb.e k=some o) (hw:i.mode= .w→∀k,gb.b k=A.b k) (afs:i.mode= .k→∀m,(A.F (.obj m)∧A.b (.obj m)=none∧A.e (.obj m)=none)→(gb.F (.obj m)∧gb.b (.obj m)=none∧gb.e (.obj m)=none)) (B6:i.mode= .r→∀k o,A.e k=some o→o.xs≠none→gb.e k=some o)
  (aw:i.mode= .c→∀m,gb.b (.obj m)=A.b (.obj m)∧gb.e (.obj m)=A.e (.obj m)∧(A.F (.obj m)→gb.F (.obj m))):ep P q n0 i gb x:=by
 cases i with
 |s i=>
  cases i with
  |v d i=>
   simp only[ep]at h⊢;obtain⟨c,p,J,U,ao,a7⟩:=h;by_cases kB:∃agg sz y,i= .loadB agg sz y
   ·obtain⟨agg,sz,y,rfl⟩:=kB;simp only[ee.looks,ek.looks,fP.looks]at aL;have tQ:=gl aL;refine⟨c,p,?_,U,fun _=>.inl rfl,a7⟩;rw[←J];simp only[ps,←tQ];have hm:=Sc (by simp[ee.mode]);simp only[ps]at J;cases bH:dv A.t y<;>simp only[rC];rename_i key off;rw[bH]at J;simp only[rC]at J;cases ae:A.b key with
    |none=>simp[ae]at J
    |some cs=>have:gb.b key=A.b key:=hm key (by rw[ae];simp);rw[this,ae]
   by_cases EE:∃ca zero ok y z,i= .mgetB ca zero ok y z
   ·obtain⟨ca,zero,ok,y,z,rfl⟩:=EE;simp only[ee.looks,ek.looks,fP.looks]at aL;obtain⟨t1,t2⟩:=j6 aL;refine⟨c,p,?_,U,fun _=>.inl rfl,a7⟩;simp only[ps]at J⊢;rw[←gl t1,←gl t2];exact Uf (Sc (by simp[ee.mode])) J
   replace ao:i.isLoad=true→q=true∨xE (i.ptrOf A.t)=true:=fun ny=>(ao ny).resolve_left (fun ae=>by cases i<;>simp[fP.isB]at ae;exact kB ⟨_,_,_,rfl⟩;exact EE ⟨_,_,_,_,_,rfl⟩);have aeL:i.isLoad=true→(ee.s (.v d i)).mode= .l:=by intro ny;cases i<;>simp only[fP.isLoad]at ny<;>first|(cases ny;done)|(simp[ee.mode,fP.isLoad];done)|exact absurd ⟨_,_,_,rfl⟩ kB|exact absurd ⟨_,_,_,_,_,rfl⟩ EE
   by_cases ny:i.isLoad=true
   ·have br:∀(bH:xE (i.ptrOf A.t)=false),∀k,A.b k≠none→gb.b k=A.b k:=fun bH k ab=>ar (aeL ny) k (.inl ((ao ny).resolve_right (by rw[bH];simp))) ab;cases i<;>simp only[fP.isLoad]at ny<;>try(cases ny;done)
    case mget ca zero ok y z=>simp only[ee.looks,ek.looks,fP.looks]at aL;obtain⟨t1,t2⟩:=j6 aL;refine⟨c,p,?_,U,fun _=>.inr (ao rfl),a7⟩;simp only[ps]at J⊢;rw[←gl t1,←gl t2];exact Uf (br rfl) J
    case ment y=>simp only[ee.looks,ek.looks,fP.looks]at aL;refine⟨c,p,?_,U,fun _=>.inr (ao rfl),a7⟩;simp only[ps]at J⊢;rw[←gl aL];exact agG (br rfl) J
    case mlen y=>simp only[ee.looks,ek.looks,fP.looks]at aL;refine⟨c,p,?_,U,fun _=>.inr (ao rfl),a7⟩;simp only[ps]at J⊢;rw[←gl aL];exact ag1 (br rfl) J
    case loadB agg sz y=>exact absurd ⟨_,_,_,rfl⟩ kB
    case mgetB=>exact absurd ⟨_,_,_,_,_,rfl⟩ EE
    rename_i agg sz y;simp only[ee.looks,ek.looks,fP.looks]at aL;have tQ:=gl aL;refine⟨c,p,?_,U,fun _=>.inr (by have:=ao rfl;simpa only[fP.ptrOf,←tQ]using this),a7⟩;rw[←J];simp only[ps,←tQ];have hm:=ar (by simp[ee.mode,fP.isLoad]);simp only[ps]at J;have sp:=ao rfl;simp only[fP.ptrOf]at sp;cases bH:dv A.t y<;>simp only[rC]
    ·rename_i key off;rw[bH]at J sp;simp only[rC]at J;cases ae:A.b key with
     |none=>simp[ae]at J
     |some cs=>have:gb.b key=A.b key:=hm key (by rcases sp with h|h;exact .inl h;cases key;exact .inr ⟨_,rfl⟩;simp[xE]at h) (by rw[ae];simp);rw[this,ae]
    ·rename_i dD key n i f;rw[bH]at J sp;simp only[rC]at J;have Sz:q=true:=sp.resolve_right (by simp[xE]);unfold yd at J;split at J
     ·rename_i n' el iZ xs he;rw[he,kT (by simp[ee.mode,fP.isLoad]) Sz key _ he (by simp)]
     ·cases J
   ·have ny:i.isLoad=false:=by simpa using ny
    refine⟨c,p,?_,U,(fun e=>by rw[ny]at e;cases e),a7⟩;rw[←J];exact(alY (by simpa only[ee.looks,ek.looks]using aL) ny).symm
  |box d key v=>
   cases key with
   |some m=>simp only[ep]at h
   |none=>simp only[ep,ee.looks,ek.looks]at h aL⊢;obtain⟨J,U,ao⟩:=h;rw[←gl aL];exact⟨aA d rfl (.inl rfl) J,U,ao⟩
  |alloc d key z=>
   cases key with
   |some m=>simp only[ep]at h
   |none=>simp only[ep]at h⊢;exact⟨aA d rfl (.inl rfl) h.1,h.2⟩
  |store sz u v=>simp only[ep,ee.looks,ek.looks]at h aL⊢;obtain⟨J,U⟩:=j6 aL;rw[←gl J,←gl U];obtain⟨k,off,cs,g1,g2,g3,g4⟩:=h;exact⟨k,off,cs,g1,by rw[hw rfl];exact g2,g3,g4⟩
  |bsl d sz el xs=>simp only[ep,ee.looks,ek.looks]at h aL⊢;rw[←FI aL];exact⟨aA d rfl (.inr (.inl rfl)) h.1,h.2⟩
  |app d sz el u v=>
   simp only[ep,ee.looks,ek.looks]at h aL⊢;obtain⟨J,U⟩:=j6 aL;rw[←gl J,←gl U];obtain⟨tag,xs,kH,ys,g1,g2,h⟩:=h;refine⟨tag,xs,kH,ys,g1,g2,?_⟩;rcases h with⟨k,o,ak,aC,bj⟩|⟨ak,aC,bj,dd⟩
   ·exact .inl ⟨k,o,ak,bD rfl k o aC,bj⟩
   ·exact .inr ⟨ak,aC,aA d rfl (.inr (.inr (.inl rfl))) bj,dd⟩
  |bslm d key sz el xs=>simp only[ep]at h
  |mks d key sz el z x=>simp only[ep]at h
  |appm d key sz el u v=>simp only[ep,ee.looks,ek.looks]at h aL⊢;obtain⟨J,U⟩:=j6 aL;rw[←gl J,←gl U];obtain⟨k,n,xs,kH,ys,g1,g2,g3,g4,g5⟩:=h;exact⟨k,n,xs,kH,ys,g1,g2,B6 rfl k _ g3 (by simp),g4,g5⟩
  |storeE sz u v=>simp only[ep,ee.looks,ek.looks]at h aL⊢;obtain⟨J,U⟩:=j6 aL;rw[←gl J,←gl U];obtain⟨k,n,i,f,el,dD,xs,q,g1,g2,g3⟩:=h;exact⟨k,n,i,f,el,dD,xs,q,g1,B6 rfl k _ g2 (by simp),g3⟩
  |mkmap d key=>
   cases key with
   |none=>simp only[ep]at h
   |some m=>simp only[ep]at h⊢;exact⟨afs rfl m h.1,h.2⟩
  |mput ca u k v=>simp only[ep,ee.looks,ek.looks]at h aL⊢;obtain⟨t1,t3⟩:=j6 aL;obtain⟨t1,t2⟩:=j6 t1;obtain⟨m,cs,cs',g1,g2,g3,g4⟩:=h;rw[←gl t1,←gl t2,←gl t3];exact⟨m,cs,cs',g1,by rw[hw rfl];exact g2,g3,g4⟩
  |range d key x=>simp only[ep]at h
 |next d x=>simp only[ep]at h
 |call d f xs=>
  simp only[ep,ee.looks]at h aL⊢;obtain⟨J,U⟩:=j6 aL;rw[←gl J,←FI U];obtain⟨n,da,g1,h⟩:=h;rcases h with⟨⟨s,ai,r,rm,bG,ch,c3,hD,j7,oV⟩,g3⟩|⟨cG,r,rfl,bG,ch⟩;rotate_left
  ·exact⟨n,da,g1,.inr ⟨cG,r,rfl,aA cG rfl (.inr (.inr (.inr rfl))) bG,ch⟩⟩
  refine⟨n,da,g1,.inl ⟨⟨s,ai,r,rm,fun k cs ab=>?_,fun k o ab=>?_,c3,hD,⟨j7.1,j7.2.1,j7.2.2.1,j7.2.2.2.1,fun k ab=>?_⟩,oV⟩,g3⟩⟩
  ·cases k with
   |loc m=>rw[c3.1 m]at ab;cases ab
   |obj m=>rw[(aw rfl m).1];exact bG _ _ ab
  ·cases k with
   |loc m=>rw[c3.2 m]at ab;cases ab
   |obj m=>rw[(aw rfl m).2.1];exact ch _ _ ab
  ·obtain⟨⟨j,rfl⟩,d2,d3,d4,d5⟩:=j7.2.2.2.2 k ab;exact⟨⟨j,rfl⟩,(aw rfl j).2.2 d2,by rw[(aw rfl j).1];exact d3,by rw[(aw rfl j).2.1];exact d4,d5⟩
def k1(d:aY Nat):kv:=⟨d,.tuple [],[],[],none⟩
def kx(P:cB)(q:Bool)(n0:Nat)(g:c5)(A:de)(x:kv):Prop:=
 match g.g with
 |none=>ep P q n0 g.i A x
 |some (s,w)=>match A.t s with
  | .bool b=>(b=w∧ep P q n0 g.i A x)∨(b= !w∧x=k1 g.i.dst)
  | .tuple []=>x=k1 g.i.dst
  |_=>eR
def e3:AU→AU→Bool
 | .v,_=>true
 |_,.v=>true
 | .l,.l| .l,.n| .l,.s| .l,.a| .l,.c=>true
 | .n,.n| .n,.s| .n,.a| .n,.c=>true
 | .s,.l| .s,.n| .s,.s| .s,.c=>true
 | .a,.l| .a,.n| .a,.s=>true
 | .c,.l| .c,.n| .c,.s=>true
 | .l,.m| .m,.l| .m,.m| .m,.n| .m,.s| .m,.a| .s,.m| .a,.m=>true
 | .l,.k| .m,.k| .n,.k| .s,.k=>true
 | .m,.r| .r,.m| .r,.n| .r,.s| .n,.r| .s,.r| .r,.w| .w,.r=>true
 |_,_=>false
def y1(g h:c5):Bool:=(match g.i.dst with|some d=> !(h.looks.contains d)&&h.i.dst !=some d|none=>true)&&(match h.i.dst with|some d=> !(g.looks.contains d)|none=>true)&&e3 g.i.mode h.i.mode
theorem WQ(q:Bool)(n0:Nat)(m:AU)(d:aY Nat)(A:de):Ht q n0 m d A (k1 d):=⟨rfl,fun k ab=>by simp[k1,look]at ab,fun k ab=>by simp[k1,look]at ab,fun k ab=>by simp[k1]at ab,fun _ k o ab=>by simp[k1,look]at ab,fun _ k o ab=>by simp[k1,look]at ab⟩
theorem MB{P:cB}{q:Bool}{n0:Nat}{g:c5}{A:de}{x:kv}(h:kx P q n0 g A x):Ht q n0 g.i.mode g.i.dst A x:=by
 unfold kx at h;split at h
 ·exact WO h
 ·split at h
  ·rcases h with⟨_,h⟩|⟨_,rfl⟩
   ·exact WO h
   ·exact WQ _ _ _ _ _
  ·subst h;exact WQ _ _ _ _ _
  ·exact h.elim
theorem si{A:de}{x:kv}{k:aD}(h:look k x.bw=none):(A.do x).b k=A.b k:=by simp[de.do,ij,h]
theorem sj{A:de}{x:kv}{k:aD}(h:look k x.ew=none):(A.do x).e k=A.e k:=by simp[de.do,ij,h]
theorem Ig{A:de}{x:kv}{k:aD}(h:(A.do x).b k=none):A.b k=none:=by
 simp only[de.do,ij]at h;split at h
 ·cases h
 ·exact h
theorem Ih{A:de}{x:kv}{k:aD}(h:(A.do x).e k=none):A.e k=none:=by
 simp only[de.do,ij]at h;split at h
 ·cases h
 ·exact h
theorem ly{α:Type}{o:aY α}(h:¬o.isSome):o=none:=by cases o<;>simp at h⊢
theorem Nc{P:cB}{q:Bool}{n0:Nat}{g:c5}{A gb:de}{x:kv}(h:kx P q n0 g A x)(aL:qd g.looks A.t gb.t)(hm:ep P q n0 g.i A x→ep P q n0 g.i gb x):kx P q n0 g gb x:=by
 unfold kx at h⊢;cases a8:g.g with
 |none=>simp only[a8]at h⊢;exact hm h
 |some ym=>
  obtain⟨s,w⟩:=ym;have:A.t s=gb.t s:=aL s (by simp[c5.looks,a8]);simp only[a8,this]at h⊢;split at h
  ·rcases h with⟨J,U⟩|h
   ·exact .inl ⟨J,hm U⟩
   ·exact .inr h
  ·exact h
  ·exact h
theorem swap{P:cB}{q:Bool}{n0:Nat}{g h:c5}(R0:y1 g h=true){A:de}{x y:kv}(ad:kx P q n0 g A x)(aM:kx P q n0 h (A.do x) y):
  kx P q n0 h A y∧kx P q n0 g (A.do y) x∧x.apart y:=by
 simp only[y1,cA]at R0;obtain⟨⟨fo,eH⟩,hm⟩:=R0;have yn:=MB ad;have cF:∀d b9,g.i.dst=some d→h.i.dst=some b9→d≠b9:=by intro d b9 ak aC e;simp only[ak,cA,bne_iff_ne]at fo;exact fo.2 (by rw[aC,e])
 have EG:qd h.looks (A.do x).t A.t:=by intro i hi;simp only[de.do];rw[if_neg];intro e;rw[yn.d]at e;simp only[e,cA,Bool.not_eq_true',List.contains_eq_mem,gr]at fo;exact fo.1 hi
 have qs:∀k,(look k x.bw).isSome→_:=yn.b;have hle:∀k,(look k x.ew).isSome→_:=yn.e;have To:kx P q n0 h A y:=by
  refine Nc aM EG fun mL=>Na mL (fun i hi=>EG i (by simp[c5.looks,hi])) (fun e k ab ae=>?_) (fun e k ae=>?_) (fun e br k o av gY=>?_) (fun d aR Sj ll=>?_) (fun e k o av=>?_) (fun e k=>?_) (fun e m ll=>⟨ll.1.1,Ig ll.2.1,Ih ll.2.2⟩) (fun e k o av gY=>?_) (fun e m=>?_)
  ·rw[si (ly fun ag=>?_)];rcases qs k ag with⟨ak,_⟩|ak|⟨ak,⟨j,aC⟩,bj⟩|⟨ak,_⟩;rotate_left 3
   ·rw[e,ak]at hm;simp[e3]at hm
   ·rw[e,ak]at hm;simp[e3]at hm
   ·rw[e,ak]at hm;simp[e3]at hm
   ·rcases ab with ab|⟨m,ab⟩
    ·rw[ab]at bj;cases bj
    ·rw[ab]at aC;cases aC
  ·rw[si (ly fun ag=>?_)];rcases qs k ag with⟨ak,_⟩|ak|⟨ak,_⟩|⟨ak,_⟩<;>(rw[e,ak]at hm;simp[e3]at hm)
  ·rw[e]at hm;cases hZ:look k x.ew with
   |none=>rw[sj hZ]at av;exact av
   |some o'=>
    exfalso;have JD:(A.do x).e k=some o':=by simp[de.do,ij,hZ]
    rw[JD]at av;cases av;rcases hle k (by simp[hZ])with⟨ak,_⟩|⟨ak,_⟩|⟨ak,_,bj⟩|⟨ak,_⟩
    ·exact gY (yn.xn (.inr ak) k _ hZ)
    ·exact gY (yn.xn (.inl ak) k _ hZ)
    ·rw[br]at bj;cases bj
    ·rw[ak]at hm;simp[e3]at hm
  ·exact⟨ll.1.1,Ig ll.2.1,Ih ll.2.2⟩
  ·rw[sj (ly fun ag=>?_)]at av
   ·exact av
   ·rw[e]at hm;rcases hle k ag with⟨ak,_⟩|⟨ak,_⟩|⟨ak,_⟩|⟨ak,_⟩<;>(rw[ak]at hm;simp[e3]at hm)
  ·rw[si (ly fun ag=>?_)];rw[e]at hm;rcases qs k ag with⟨ak,_⟩|ak|⟨ak,_⟩|⟨ak,_⟩<;>(rw[ak]at hm;simp[e3]at hm)
  ·rw[e]at hm;cases hZ:look k x.ew with
   |none=>rw[sj hZ]at av;exact av
   |some o'=>
    exfalso;have JD:(A.do x).e k=some o':=by simp[de.do,ij,hZ]
    rw[JD]at av;cases av;rcases hle k (by simp[hZ])with⟨ak,_⟩|⟨ak,_⟩|⟨ak,_⟩|⟨ak,_⟩
    ·exact gY (yn.xn (.inr ak) k _ hZ)
    ·rw[ak]at hm;simp[e3]at hm
    ·rw[ak]at hm;simp[e3]at hm
    ·rw[ak]at hm;simp[e3]at hm
  ·rw[e]at hm;refine⟨?_,?_,fun gG=>gG.1⟩
   ·rw[si (ly fun ag=>?_)];rcases qs _ ag with⟨ak,d,_,aC,_⟩|ak|⟨ak,_⟩|⟨ak,_⟩;rotate_left 3
    ·rw[ak]at hm;simp[e3]at hm
    ·cases aC
    ·rw[ak]at hm;simp[e3]at hm
    ·rw[ak]at hm;simp[e3]at hm
   ·rw[sj (ly fun ag=>?_)];rcases hle _ ag with⟨ak,d,_,aC,_⟩|⟨ak,_⟩|⟨ak,_⟩|⟨ak,_⟩
    ·cases aC
    ·rw[ak]at hm;simp[e3]at hm
    ·rw[ak]at hm;simp[e3]at hm
    ·rw[ak]at hm;simp[e3]at hm
 have ty:=MB To;have RH:qd g.looks A.t (A.do y).t:=by intro i hi;simp only[de.do];rw[if_neg];intro e;rw[ty.d]at e;simp only[e,Bool.not_eq_true',List.contains_eq_mem,gr]at eH;exact eH hi
 refine⟨To,?_,?_⟩
 ·refine Nc ad RH fun mL=>Na mL (fun i hi=>RH i (by simp[c5.looks,hi])) (fun e k ab ae=>?_) (fun e k ae=>?_) (fun e br k o av gY=>?_) (fun d aR Sj ll=>?_) (fun e k o av=>?_) (fun e k=>?_) (fun e m ll=>?_) (fun e k o av gY=>?_) (fun e m=>?_)
  ·refine si (ly fun ag=>?_);rcases ty.b k ag with⟨ak,d,_,_,aC,_⟩|ak|⟨ak,⟨j,aC⟩,bj⟩|⟨_,_,aC,_⟩;rotate_left 3
   ·exact ae aC
   ·exact ae aC
   ·rw[e,ak]at hm;simp[e3]at hm
   ·rcases ab with ab|⟨m,ab⟩
    ·rw[ab]at bj;cases bj
    ·rw[ab]at aC;cases aC
  ·refine si (ly fun ag=>?_);rcases ty.b k ag with⟨ak,d,_,_,aC,_⟩|ak|⟨ak,_⟩|⟨_,_,aC,_⟩;rotate_left 3
   ·exact ae aC
   ·exact ae aC
   ·rw[e,ak]at hm;simp[e3]at hm
   ·rw[e,ak]at hm;simp[e3]at hm
  ·rw[sj (ly fun ag=>?_)]
   ·exact av
   ·rcases ty.e k ag with⟨ak,d,_,_,_,aC⟩|⟨ak,aC⟩|⟨ak,_,bj⟩|⟨ak,_⟩
    ·rw[aC]at av;cases av
    ·exact gY (ty.ex ak k o ag av)
    ·rw[br]at bj;cases bj
    ·rw[e,ak]at hm;simp[e3]at hm
  ·refine⟨⟨ll.1,fun qk=>?_⟩,?_,?_⟩
   ·rcases ty.r _ qk with⟨b9,ak,aC⟩|⟨_,⟨j,aC⟩,_⟩
    ·simp only[aD.loc.injEq]at aC;exact cF d b9 aR ak (by omega)
    ·cases aC
   ·rw[si (ly fun ag=>?_)]
    ·exact ll.2.1
    ·rcases ty.b _ ag with⟨ak,b9,aC,bj,_⟩|ak|⟨ak,⟨j,aC⟩,_⟩|⟨ak,⟨j,aC⟩,_⟩;rotate_left 3
     ·cases aC
     ·simp only[aD.loc.injEq]at bj;exact cF d b9 aR aC (by omega)
     ·rcases Sj with aC|aC|aC|aC<;>(rw[ak,aC]at hm;simp[e3]at hm)
     ·cases aC
   ·rw[sj (ly fun ag=>?_)]
    ·exact ll.2.2
    ·rcases ty.e _ ag with⟨ak,b9,aC,bj,_⟩|⟨ak,aC⟩|⟨ak,⟨j,aC⟩,_⟩|⟨ak,o,aC,_⟩
     ·simp only[aD.loc.injEq]at bj;exact cF d b9 aR aC (by omega)
     ·rcases aC with aC|⟨b9,aC,bj,_⟩
      ·exact aC ll.2.2
      ·simp only[aD.loc.injEq]at bj;exact cF d b9 aR aC (by omega)
     ·cases aC
     ·rw[ll.2.2]at aC;cases aC
  ·rw[sj (ly fun ag=>?_)]
   ·exact av
   ·rw[e]at hm;rcases ty.e k ag with⟨ak,d,_,_,_,aC⟩|⟨ak,_⟩|⟨ak,_⟩|⟨ak,_⟩
    ·rw[aC]at av;cases av
    ·rw[ak]at hm;simp[e3]at hm
    ·rw[ak]at hm;simp[e3]at hm
    ·rw[ak]at hm;simp[e3]at hm
  ·refine si (ly fun ag=>?_);rw[e]at hm;rcases ty.b k ag with⟨ak,_⟩|ak|⟨ak,_⟩|⟨ak,_⟩<;>(rw[ak]at hm;simp[e3]at hm)
  ·rw[e]at hm;refine⟨⟨ll.1,fun qk=>?_⟩,?_,?_⟩
   ·rcases ty.r _ qk with⟨b9,ak,aC⟩|⟨ak|ak,_⟩
    ·cases aC
    ·rw[ak]at hm;simp[e3]at hm
    ·rw[ak]at hm;simp[e3]at hm
   ·rw[si (ly fun ag=>?_)]
    ·exact ll.2.1
    ·rcases ty.b _ ag with⟨ak,_⟩|ak|⟨ak,_⟩|⟨ak,_⟩<;>(rw[ak]at hm;simp[e3]at hm)
   ·rw[sj (ly fun ag=>?_)]
    ·exact ll.2.2
    ·rcases ty.e _ ag with⟨ak,_⟩|⟨ak,_⟩|⟨ak,_⟩|⟨ak,o,aC,_⟩
     ·rw[ak]at hm;simp[e3]at hm
     ·rw[ak]at hm;simp[e3]at hm
     ·rw[ak]at hm;simp[e3]at hm
     ·rw[ll.2.2]at aC;cases aC
  ·rw[sj (ly fun ag=>?_)]
   ·exact av
   ·rw[e]at hm;rcases ty.e k ag with⟨ak,d,_,_,_,aC⟩|⟨ak,_⟩|⟨ak,_⟩|⟨ak,_⟩
    ·rw[aC]at av;cases av
    ·rw[ak]at hm;simp[e3]at hm
    ·rw[ak]at hm;simp[e3]at hm
    ·rw[ak]at hm;simp[e3]at hm
  ·rw[e]at hm;refine⟨?_,?_,fun gG=>⟨gG,fun qk=>?_⟩⟩;rotate_left 2
   ·rcases ty.r _ qk with⟨b9,_,aC⟩|⟨aC|aC,_⟩
    ·cases aC
    ·rw[aC]at hm;simp[e3]at hm
    ·rw[aC]at hm;simp[e3]at hm
   ·refine si (ly fun ag=>?_);rcases ty.b _ ag with⟨ak,d,_,aC,_⟩|ak|⟨ak,_⟩|⟨ak,_⟩;rotate_left 3
    ·rw[ak]at hm;simp[e3]at hm
    ·cases aC
    ·rw[ak]at hm;simp[e3]at hm
    ·rw[ak]at hm;simp[e3]at hm
   ·refine sj (ly fun ag=>?_);rcases ty.e _ ag with⟨ak,d,_,aC,_⟩|⟨ak,_⟩|⟨ak,_⟩|⟨ak,_⟩
    ·cases aC
    ·rw[ak]at hm;simp[e3]at hm
    ·rw[ak]at hm;simp[e3]at hm
    ·rw[ak]at hm;simp[e3]at hm
 ·refine⟨fun i hi e=>?_,fun k ab=>ly fun ag=>?_,fun k ab=>ly fun ag=>?_⟩
  ·rw[yn.d]at hi;rw[ty.d]at e;exact cF i i hi e rfl
  ·rcases qs k ab with⟨bC,d,a2,a3,_⟩|bC|⟨bC,⟨j,a2⟩,_⟩|⟨bC,_⟩<;>rcases ty.b k ag with⟨b8,b9,b3,fG,_⟩|b8|⟨b8,⟨dy,b3⟩,_⟩|⟨b8,⟨dy,b3⟩,_⟩;all_goals first|(rw[bC,b8]at hm;simp[e3]at hm;done)|skip
   ·rw[a3]at fG;simp only[aD.loc.injEq]at fG;exact cF d b9 a2 b3 (by omega)
   ·rw[a3]at b3;cases b3
   ·rw[a3]at b3;cases b3
   ·rw[a2]at fG;cases fG
  ·rcases hle k ab with⟨bC,d,a2,a3,_,a4⟩|⟨bC,a2⟩|⟨bC,⟨j,a2⟩,_⟩|⟨bC,gR,a2,_⟩<;>rcases ty.e k ag with⟨b8,b9,b3,fG,_,oU⟩|⟨b8,b3⟩|⟨b8,⟨dy,b3⟩,_⟩|⟨b8,gJ,b3,_⟩
   ·rw[a3]at fG;simp only[aD.loc.injEq]at fG;exact cF d b9 a2 b3 (by omega)
   ·rw[bC,b8]at hm;simp[e3]at hm
   ·rw[a3]at b3;cases b3
   ·rw[a4]at b3;cases b3
   ·rcases a2 with a2|⟨d,a2,a3,_⟩
    ·exact a2 oU
    ·rw[a3]at fG;simp only[aD.loc.injEq]at fG;exact cF d b9 a2 b3 (by omega)
   ·rw[bC,b8]at hm;simp[e3]at hm
   ·rw[bC,b8]at hm;simp[e3]at hm
   ·rw[bC,b8]at hm;simp[e3]at hm
   ·rw[a2]at fG;cases fG
   ·rw[bC,b8]at hm;simp[e3]at hm
   ·rw[bC,b8]at hm;simp[e3]at hm
   ·rw[bC,b8]at hm;simp[e3]at hm
   ·rw[oU]at a2;cases a2
   ·rw[bC,b8]at hm;simp[e3]at hm
   ·rw[bC,b8]at hm;simp[e3]at hm
   ·rw[bC,b8]at hm;simp[e3]at hm
def wI(C:fc)(A:de)(a:Act)(w:World):Prop:= ∃st ν,k9 st A∧(∀k,A.F k→fresh st.n st.o k)∧cT C st a w ν
theorem Kr{st:bp}{A:de}(h:k9 st A)(d:Nat)(p:ah):k9 {st with t:=put d p st.t} (A.do ⟨some d,p,[],[],none⟩):=by
 refine⟨fun i=>?_,fun k=>?_,fun k=>?_⟩
 ·simp only[de.do,o4,dE,h.t]
 ·simpa[de.do,ij,look]using h.b k
 ·simpa[de.do,ij,look]using h.e k
theorem TY{st:bp}{A:de}(h:k9 st A)(d:Nat)(p:ah)(o':List aD)(rm:aY aD):k9 {st with t:=put d p st.t,o:=o'} (A.do ⟨some d,p,[],[],rm⟩):=by have:=Kr h d p;exact⟨this.t,this.b,this.e⟩
theorem XA{α:Type}{β:Type}:∀l:List (aD×α),cn ([]:List (aD×β)) l=l
 |[]=>rfl
 |(k,x)::r=>by simp[cn,look,XA r]
theorem zL{st:bp}{A:de}(h:k9 st A)(d:Nat)(p:ah)(κ:aD)(cs:List ah)(n':Nat)(o':List aD)(rm:aY aD):k9 ⟨put d p st.t,cw κ cs st.b,st.e,n',o'⟩ (A.do ⟨some d,p,[(κ,cs)],[],rm⟩):=by
 refine⟨fun i=>?_,fun k=>?_,fun k=>?_⟩
 ·simp only[de.do,o4,dE,h.t]
 ·simp only[de.do,ij,look,iI,h.b];by_cases e:κ=k<;>simp[e]
 ·simpa[de.do,ij,look]using h.e k
theorem FD{st:bp}{A:de}(h:k9 st A)(κ:aD)(cs:List ah)(p:ah):k9 {st with b:=cw κ cs st.b} (A.do ⟨none,p,[(κ,cs)],[],none⟩):=by
 refine⟨fun i=>?_,fun k=>?_,fun k=>?_⟩
 ·simpa[de.do]using h.t i
 ·simp only[de.do,ij,look,iI,h.b];by_cases e:κ=k<;>simp[e]
 ·simpa[de.do,ij,look]using h.e k
theorem vM{st:bp}{A:de}(h:k9 st A)(d:Nat)(p:ah)(κ:aD)(o:fM)(n':Nat)(o':List aD)(rm:aY aD):k9 ⟨put d p st.t,st.b,cw κ o st.e,n',o'⟩ (A.do ⟨some d,p,[],[(κ,o)],rm⟩):=by
 refine⟨fun i=>?_,fun k=>?_,fun k=>?_⟩
 ·simp only[de.do,o4,dE,h.t]
 ·simpa[de.do,ij,look]using h.b k
 ·simp only[de.do,ij,look,iI,h.e];by_cases e:κ=k<;>simp[e]
theorem TX{st:bp}{A:de}(h:k9 st A)(κ:aD)(o:fM)(p:ah):k9 {st with e:=cw κ o st.e} (A.do ⟨none,p,[],[(κ,o)],none⟩):=by
 refine⟨fun i=>?_,fun k=>?_,fun k=>?_⟩
 ·simpa[de.do]using h.t i
 ·simpa[de.do,ij,look]using h.b k
 ·simp only[de.do,ij,look,iI];by_cases e:κ=k<;>simp[e,h.e]
theorem KH{α:Type}{k:aD}:∀{l:List (aD×α)},k∈l.map (·.1)→(look k l).isSome
 |[],h=>by simp at h
 |(i,x)::r,h=>by
  simp only[look];split
  ·rfl
  ·rename_i e;simp only[gM,fK]at h;rcases h with h|h
   ·exact absurd h.symm e
   ·exact KH h
theorem va{n:Nat}{o:List aD}{κ:aD}:∀j,fresh n (κ::o) j→fresh n o j∧j≠κ:=by intro j af;simp only[fresh,fK,not_or]at af⊢;exact⟨⟨af.1,af.2.2⟩,af.2.1⟩
theorem acP{n:Nat}{o:List aD}{κ j:aD}(h:fresh n o j)(af:some κ≠some j):fresh n (κ::o) j:=by simp only[fresh,fK,not_or]at h⊢;exact⟨h.1,fun e=>af (by rw[e]),h.2⟩
theorem Nb{P:cB}{bz:List (Nat×dA)}(aL:fN P bz=true){C:fc}{q:Bool}{n0:Nat}{i:ee}{o:Oper}(av:uB C.N bz i o=true){A:de}{x:kv}(ad:ep P q n0 i A x){a:Act}{w:World}(aK:wI C A a w)
  {K:Act→World→Prop} {Q:Exit→Act→World→Prop} (c7:∀bn w',wI C (A.do x) bn w'→K bn w'):o.wp P a w K Q:=by
 obtain⟨st,ν,ar,gG,aK⟩:=aK;have w8:∀(t:List (Nat×ah)) (b:List (aD×List ah)) (e:List (aD×fM)) (d:aY Nat) (p:ah) (bw:List (aD×List ah)) (ew:List (aD×fM)),∀k,(A.do ⟨d,p,bw,ew,none⟩).F k→fresh st.n st.o k:=fun t b e d p bw ew k ab=>gG k ab.1;have mK:∀(d:aY Nat) (p:ah) (bw:List (aD×List ah)) (ew:List (aD×fM)) (κ:aD),∀k,(A.do ⟨d,p,bw,ew,some κ⟩).F k→fresh st.n (κ::st.o) k:=fun d p bw ew κ k ab=>acP (gG k ab.1) ab.2;cases i with
 |s i=>
  have hK:Da C.N bz i o=true:=by simpa only[uB]using av
  cases i with
  |v d i=>simp only[ep]at ad;obtain⟨c,p,J,U,_,rfl⟩:=ad;rw[←WV ar]at J;refine jA (κ:= .loc 0) (n':=0) (o₁:=[]) aL aK hK (fun h=>by simp[ek.makes]at h) (fun h=>by simp[ek.makes]at h) (st':={st with t:=put d p st.t}) (by simp only[eB,J]) U fun bn w' bo cr=>c7 _ _ ⟨_,bo,Kr ar d p,fun k ab=>gG k ab.1,cr⟩
  |box d key v=>
   cases key with
   |some m=>simp only[ep]at ad
   |none=>simp only[ep]at ad;obtain⟨⟨J,_⟩,U,rfl⟩:=ad;rw[←iB ar]at U;refine jA (κ:= .loc (n0+d)) (n':=st.n) (o₁:= .loc (n0+d)::st.o) aL aK hK (fun _=>gG _ J) (fun _=>va) (st':=⟨put d (.ptr (.loc (n0+d)) 0) st.t,cw (.loc (n0+d)) (cells (cm st.t v)) st.b,st.e,st.n,.loc (n0+d)::st.o⟩) (by simp only[eB]) U fun bn w' bo cr=>c7 _ _ ⟨_,bo,?_,mK _ _ _ _ _,cr⟩;rw[iB ar];exact zL ar d _ _ _ _ _ _
  |alloc d key z=>
   cases key with
   |some m=>simp only[ep]at ad
   |none=>simp only[ep]at ad;obtain⟨⟨J,_⟩,rfl⟩:=ad;refine jA (κ:= .loc (n0+d)) (n':=st.n) (o₁:= .loc (n0+d)::st.o) aL aK hK (fun _=>gG _ J) (fun _=>va) (st':=⟨put d (.ptr (.loc (n0+d)) 0) st.t,cw (.loc (n0+d)) (cells z) st.b,st.e,st.n,.loc (n0+d)::st.o⟩) (by simp only[eB]) trivial fun bn w' bo cr=>c7 _ _ ⟨_,bo,zL ar d _ _ _ _ _ _,mK _ _ _ _ _,cr⟩
  |store sz u v=>simp only[ep]at ad;obtain⟨k,off,cs,J,U,ao,rfl⟩:=ad;rw[←iB ar]at J ao;rw[←ar.b]at U;refine jA (κ:= .loc 0) (n':=0) (o₁:=[]) aL aK hK (fun h=>by simp[ek.makes]at h) (fun h=>by simp[ek.makes]at h) (st':={st with b:=cw k (nH cs off (cells (cm st.t v))) st.b}) (by simp only[eB,J,U]) ao fun bn w' bo cr=>c7 _ _ ⟨{st with b:=cw k (nH cs off (cells (cm st.t v))) st.b},bo,by rw[iB ar];exact FD ar k _ _,fun k ab=>gG k ab.1,cr⟩
  |bsl d sz el xs=>simp only[ep]at ad;obtain⟨⟨J,_⟩,U,rfl⟩:=ad;rw[←tH ar]at U;refine jA (κ:= .loc (n0+d)) (n':=st.n) (o₁:= .loc (n0+d)::st.o) aL aK hK (fun _=>gG _ J) (fun _=>va) (st':=⟨put d (.slice sz (.own (.loc (n0+d))) (xs.map (cm st.t))) st.t,st.b,cw (.loc (n0+d)) ⟨xs.length,el,sz,none⟩ st.e,st.n,.loc (n0+d)::st.o⟩) (by simp only[eB]) U fun bn w' bo cr=>c7 _ _ ⟨_,bo,?_,mK _ _ _ _ _,cr⟩;rw[tH ar];exact vM ar d _ _ _ _ _ _
  |app d sz el u v=>
   simp only[ep]at ad;obtain⟨tag,xs,kH,ys,J,U,ad⟩:=ad;rw[←iB ar]at J U;rcases ad with⟨k,ow,rfl,ao,a7,rfl⟩|⟨rfl,ao,⟨a7,_⟩,rfl⟩
   ·rw[←ar.e]at ao;refine jA (κ:= .loc 0) (n':=0) (o₁:=[]) aL aK hK (fun h=>by simp[ek.makes,J]at h) (fun h=>by simp[ek.makes,J]at h) (st':=⟨put d (.slice sz (.own k) (xs++ys)) st.t,st.b,cw k ⟨xs.length+ys.length,el,sz,none⟩ st.e,st.n,st.o⟩) (by simp only[eB,J,U,ao,and_self,if_true]) a7.2 fun bn w' bo cr=>c7 _ _ ⟨_,bo,vM ar d _ _ _ _ _ _,fun k ab=>gG k ab.1,cr⟩
   ·refine jA (κ:= .loc (n0+d)) (n':=st.n) (o₁:= .loc (n0+d)::st.o) aL aK hK (fun _=>gG _ a7) (fun _=>va) (st':=⟨put d (.slice sz (.own (.loc (n0+d))) ys) st.t,st.b,cw (.loc (n0+d)) ⟨ys.length,el,sz,none⟩ st.e,st.n,.loc (n0+d)::st.o⟩) (by simp only[eB,J,U,and_self,if_true]) ao fun bn w' bo cr=>c7 _ _ ⟨_,bo,vM ar d _ _ _ _ _ _,mK _ _ _ _ _,cr⟩
  |bslm d key sz el xs=>simp only[ep]at ad
  |mks d key sz el z x=>simp only[ep]at ad
  |appm d key sz el u v=>simp only[ep]at ad;obtain⟨k,n,xs,kH,ys,J,U,ao,a7,rfl⟩:=ad;rw[←iB ar]at J U;rw[←ar.e]at ao;refine jA (κ:= .loc 0) (n':=0) (o₁:=[]) aL aK hK (fun h=>by simp[ek.makes,J]at h) (fun h=>by simp[ek.makes,J]at h) (st':=⟨put d (.row sz k (xs.length+ys.length)) st.t,st.b,cw k ⟨xs.length+ys.length,el,sz,some (xs++ys)⟩ st.e,st.n,st.o⟩) (by simp only[eB,sc,J,U,ao,and_self,if_true]) a7 fun bn w' bo cr=>c7 _ _ ⟨_,bo,vM ar d _ _ _ _ _ _,fun k ab=>gG k ab.1,cr⟩
  |storeE sz u v=>simp only[ep]at ad;obtain⟨k,n,i,f,el,dD,xs,q,J,U,ao,a7,rfl⟩:=ad;rw[←iB ar]at J a7;rw[←ar.e]at U;refine jA (κ:= .loc 0) (n':=0) (o₁:=[]) aL aK hK (fun h=>by simp[ek.makes]at h) (fun h=>by simp[ek.makes]at h) (st':={st with e:=cw k ⟨n,el,dD,some (xs.set i (mu q f (cells (cm st.t v))))⟩ st.e}) (by simp only[eB,qI,J,U,ao,and_self,if_true]) a7 fun bn w' bo cr=>c7 _ _ ⟨{st with e:=cw k ⟨n,el,dD,some (xs.set i (mu q f (cells (cm st.t v))))⟩ st.e},bo,by rw[iB ar];exact TX ar k _ _,fun k ab=>gG k ab.1,cr⟩
  |mkmap d key=>
   cases key with
   |none=>simp only[ep]at ad
   |some m=>simp only[ep]at ad;obtain⟨⟨J,_⟩,rfl⟩:=ad;exact jA (κ:= .obj m) (n':=st.n) (o₁:= .obj m::st.o) aL aK hK (fun _=>gG _ J) (fun _=>va) (st':=⟨put d (.gmap (.obj m)) st.t,cw (.obj m) [.hdm 0 []] st.b,st.e,st.n,.obj m::st.o⟩) (by simp only[eB]) trivial fun bn w' bo cr=>c7 _ _ ⟨_,bo,zL ar d _ _ _ _ _ _,mK _ _ _ _ _,cr⟩
  |mput ca u k v=>simp only[ep]at ad;obtain⟨m,cs,cs',J,U,ao,rfl⟩:=ad;rw[←iB ar]at J;rw[←iB ar,←iB ar]at ao;rw[←ar.b]at U;exact jA (κ:= .loc 0) (n':=0) (o₁:=[]) aL aK hK (fun h=>by simp[ek.makes]at h) (fun h=>by simp[ek.makes]at h) (st':={st with b:=cw m cs' st.b}) (by simp only[eB,J,U,ao]) trivial fun bn w' bo cr=>c7 _ _ ⟨{st with b:=cw m cs' st.b},bo,FD ar m _ _,fun k ab=>gG k ab.1,cr⟩
  |range d key x=>simp only[ep]at ad
 |next d x=>simp only[ep]at ad
 |call d f xs=>
  simp only[ep]at ad;obtain⟨n,da,J,ad⟩:=ad;rw[←iB ar]at J;rcases ad with⟨⟨s,ai,r,rm,bG,ch,c3,hD,j7,oV,A9,rfl⟩,_⟩|⟨cG,r,rfl,bG,ch,c3,rfl⟩;rotate_left
  ·rw[←tH ar]at ch c3;simp only[uB]at av;split at av
   ·rename_i q0 args AH mR;simp only[cA,dL]at av;obtain⟨⟨⟨ak,aC⟩,bj⟩,dd⟩:=av;have lL:=ej aK bj;rw[J]at lL;refine P0 aK mR ak aC lL (C4 aK dd) (K:=fun st'=>st'={st with t:=put cG r st.t,o:= .loc (n0+cG)::st.o}) ⟨⟨[],[]⟩,_,some (n0+cG),st.n,fun _=>.loc (n0+cG)::st.o,fun k cs ab=>by simp[look]at ab,fun k cs ab=>by simp[look]at ab,⟨fun _=>rfl,fun _=>rfl⟩,jH (fun _ h=>h.elim) _ ch,c3,fun m hm=>?_,fun k eF ai br ab=>?_,?_⟩ ?_
    ·cases hm;exact gG _ bG.1
    ·obtain⟨_,rfl⟩:=br;have:=va k ab;exact⟨by simpa[cW]using this.1,fun m hm=>by cases hm;exact this.2⟩
    ·rintro eF ox ⟨rfl,rfl⟩;refine⟨⟨fun m hm=>by simp[look]at hm,fun m hm=>by simp[look]at hm⟩,?_⟩;simp[after,XA,eM]
    ·rintro st' bn w' bo rfl cr;exact c7 _ _ ⟨_,bo,TY ar cG r _ _,mK _ _ _ _ _,cr⟩
   ·cases av
  rw[←tH ar]at oV A9;simp only[uB]at av;split at av
  ·rename_i q0 args AH mR;simp only[cA,dL]at av;obtain⟨⟨⟨ak,aC⟩,bj⟩,dd⟩:=av;have lL:=ej aK bj;rw[J]at lL;obtain⟨aZ,bI,ck,eK,c8⟩:=j7;refine PZ aK mR ak aC lL (C4 aK dd) (K:=fun st'=>st'=after st s ai d r) (.inl ⟨s,_,fun k cs ab=>⟨by rw[ar.b];exact(bG k cs ab).1,.inl (by simp[ab]),(bG k cs ab).2⟩,fun k o' ab=>⟨by rw[ar.e];exact(ch k o' ab).1,.inr (by simp[ab]),(ch k o' ab).2⟩,c3,oV,A9,?_⟩) ?_
   ·rintro eF ox ⟨rfl,rfl⟩;refine⟨⟨fun m hm=>?_,fun m hm=>?_⟩,rfl⟩
    ·rcases aZ _ hm with h|h
     ·exact .inl h
     ·exact .inr (gG _ (c8 _ h).2.1).2
    ·rcases bI _ hm with h|h
     ·exact .inl h
     ·exact .inr (gG _ (c8 _ h).2.1).2
   ·rintro st' bn w' bo rfl cr;refine c7 _ _ ⟨_,bo,⟨fun i=>?_,fun k=>?_,fun k=>?_⟩,fun k ab=>?_,cr⟩
    ·simp only[after,de.do];cases d with
     |none=>simpa[eM]using ar.t i
     |some d=>simp only[eM,o4,dE,ar.t]
    ·simp only[after,de.do,ij,xO,uo];by_cases ag:(look k s.b).isSome
     ·have:=ck k ag;obtain⟨y,aM⟩:=fL.1 this;simp[ag,aM]
     ·cases aA:look k ai.b with
      |none=>simp only[ag,ar.b];cases A.b k<;>simp
      |some y=>
       rcases aZ k (by simp[aA])with h|h
       ·exact absurd h ag
       ·have:=c8 k h;simp[ag,ar.b,this]
    ·simp only[after,de.do,ij,xO,uo];by_cases ag:(look k s.e).isSome
     ·have:=eK k ag;obtain⟨y,aM⟩:=fL.1 this;simp[ag,aM]
     ·cases aA:look k ai.e with
      |none=>simp only[ag,ar.e];cases A.e k<;>simp
      |some y=>
       rcases bI k (by simp[aA])with h|h
       ·exact absurd h ag
       ·have:=c8 k h;simp[ag,ar.e,this]
    ·have Jm:=gG k ab.1;have od:=aK.lookNone Jm;simp only[after];refine⟨Jm.1,fun il=>?_⟩;rcases jP.1 il with il|il
     ·exact Jm.2 il
     ·rcases jP.1 il with il|il
      ·rcases aZ k (KH il)with h|h
       ·obtain⟨y,aM⟩:=fL.1 h;have:=(bG k y aM).1;rw[←ar.b,od.1]at this;cases this
       ·exact ab.2 h
      ·rcases bI k (KH il)with h|h
       ·obtain⟨y,aM⟩:=fL.1 h;have:=(ch k y aM).1;rw[←ar.e,od.2]at this;cases this
       ·exact ab.2 h
  ·cases av
theorem XP{P:cB}{bz:List (Nat×dA)}(aL:fN P bz=true){C:fc}{q:Bool}{n0:Nat}{ops:Array Oper}{g:c5}{o:Oper}{j:Nat}(af:ops[j]? =some o)(av:Bt C.N bz ops.toList g o=true){A:de}{x:kv}(ad:kx P q n0 g A x){a:Act}{w:World}(aK:wI C A a w)
  {K:Act→World→Prop} {Q:Exit→Act→World→Prop} (c7:∀bn w',wI C (A.do x) bn w'→K bn w'):wpOp P ops Q j K a w:=by
 unfold wpOp;rw[af];simp only;simp only[Bt,cA]at av;obtain⟨qq,rf⟩:=av;unfold kx at ad;cases BM:g.g with
 |none=>
  cases eT:o.guard with
  |some x=>simp[eT,BM]at qq
  |none=>
   have hw:oG o (yielded ops a.tmps)=true:=by simp[oG,eT]
   rw[if_pos hw];simp only[BM]at ad;exact .inl (Nb aL rf ad aK c7)
 |some ym=>
  obtain⟨s,want⟩:=ym;cases eT:o.guard with
  |none=>simp[eT,BM]at qq
  |some ann=>
   obtain⟨apA,b2⟩:=ann;simp only[eT,BM,cA,dL,fm]at qq;obtain⟨⟨⟨⟨rfl,U⟩,ao⟩,a7⟩,bZ⟩:=qq;obtain⟨st,ν,ar,gG,dC⟩:=id aK;obtain⟨ks,oE⟩:=XE dC U ao;simp only[BM]at ad;have SG:∀(h:x=k1 g.i.dst),K (a.put o.dst undef) w:=by
    rintro rfl;rw[a7];refine c7 _ _ ⟨_,ν,?_,fun k ab=>?_,dC.put bZ (p:= .tuple []) (by simp[ba,cP,undef])⟩
    ·refine⟨fun i=>?_,fun k=>?_,fun k=>?_⟩
     ·simp only[de.do,k1];cases g.i.dst with
      |none=>simpa[eM]using ar.t i
      |some d=>simp only[eM,o4,dE,ar.t]
     ·simpa[de.do,ij,look,k1]using ar.b k
     ·simpa[de.do,ij,look,k1]using ar.e k
    ·exact gG k ab.1
   split at ad
   ·rename_i b ae;have aM:=ks b (by rw[ar.t];exact ae);rcases ad with⟨rfl,ad⟩|⟨rfl,ad⟩
    ·have hw:oG o (yielded ops a.tmps)=true:=by simp[oG,eT,aM]
     rw[if_pos hw];exact .inl (Nb aL rf ad aK c7)
    ·have hw:¬(oG o (yielded ops a.tmps)=true):=by simp[oG,eT,aM]
     rw[if_neg hw];exact SG ad
   ·rename_i ae;have aM:=oE (by rw[ar.t];exact ae);have hw:¬(oG o (yielded ops a.tmps)=true):=by simp[oG,eT,aM]
    rw[if_neg hw];exact SG ad
   ·exact ad.elim
def u4(P:cB)(q:Bool)(n0:Nat)(K:de→Prop):List (Nat×c5)→de→Prop
 |[],A=>K A
 |(_,g)::r,A=> ∃x,kx P q n0 g A x∧u4 P q n0 K r (A.do x)
theorem NQ{P:cB}{q:Bool}{n0:Nat}{K:de→Prop}{i:Nat}{g:c5}:∀(nT oO:List (Nat×c5)) (A:de),(∀x∈nT,y1 x.2 g=true)→u4 P q n0 K (nT++(i,g)::oO) A→∃x,kx P q n0 g A x∧u4 P q n0 K (nT++oO) (A.do x)
 |[],oO,A,_,h=>h
 |(j,Rv)::nT,oO,A,aw,h=>by simp only[bP,u4]at h;obtain⟨y,aM,h⟩:=h;obtain⟨x,ad,h⟩:=NQ nT oO (A.do y) (fun z bE=>aw z (oK _ bE)) h;obtain⟨s1,s2,s3⟩:=swap (aw _ (List.mem_cons_self ..)) aM ad;refine⟨x,s1,y,s2,?_⟩;rw[←de.do_comm A s3];exact h
def rem(hA:Array Bool):Nat→List c5→List (Nat×c5)
 |_,[]=>[]
 |k,g::r=>if hA.getD k false then rem hA (k+1) r else(k,g)::rem hA (k+1) r
theorem VW{l aX:Array Bool}:∀(gs:List c5) (k:Nat),(∀j,k≤j→l.getD j false=aX.getD j false)→rem l k gs=rem aX k gs
 |[],_,_=>rfl
 |g::r,k,h=>by simp only[rem,h k (eV _),VW r (k+1) fun j af=>h j (by omega)]
theorem EA{l:Array Bool}{i j:Nat}(h:i<l.size):(l.setIfInBounds i true).getD j false=if i=j then true else l.getD j false:=by
 simp only[Array.getD_eq_getD_getElem?];by_cases e:i=j
 ·subst e;simp[h]
 ·simp[e]
theorem LU{l:Array Bool}{i:Nat}(hi:i<l.size)(aA:l.getD i false=false):∀(gs:List c5) (k:Nat),k≤i→i<k+gs.length→∃nT oO g,gs[i-k]? =some g∧rem l k gs=nT++(i,g)::oO∧rem (l.setIfInBounds i true) k gs=nT++oO∧
  ∀x∈nT,gs[x.1-k]? =some x.2∧k≤x.1∧x.1<i∧l.getD x.1 false=false
 |[],k,J,U=>by simp at U;omega
 |g::r,k,J,U=>by
  by_cases e:k=i
  ·subst e;refine⟨[],rem l (k+1) r,g,by simp,by simp[rem,aA],?_,fun x ad=>by simp at ad⟩;simp only[rem,EA hi,if_true,bX];exact VW r (k+1) fun j af=>by rw[EA hi,if_neg (by omega)]
  ·obtain⟨nT,oO,fe,ak,aC,bj,dd⟩:=LU hi aA r (k+1) (by omega) (by simp at U;omega);have vk:i-k=(i-(k+1))+1:=by omega
   have gX:(l.setIfInBounds i true).getD k false=l.getD k false:=by rw[EA hi,if_neg (by omega)]
   by_cases ab:l.getD k false=true
   ·refine⟨nT,oO,fe,by rw[vk];simpa using ak,by simp only[rem,ab,if_true,aC],by simp only[rem,gX,ab,if_true,bj],fun x ad=>?_⟩;obtain⟨f1,f2,f3,f4⟩:=dd x ad;refine⟨?_,by omega,f3,f4⟩;have:x.1-k=(x.1-(k+1))+1:=by omega
    rw[this];simpa using f1
   ·have ab:l.getD k false=false:=by simpa using ab
    refine⟨(k,g)::nT,oO,fe,by rw[vk];simpa using ak,by simp[rem,ab,aC],by simp[rem,gX,ab,bj],fun x ad=>?_⟩;rcases fK.1 ad with rfl|ad
    ·exact⟨by simp,eV _,by simp;omega,ab⟩
    ·obtain⟨f1,f2,f3,f4⟩:=dd x ad;refine⟨?_,by omega,f3,f4⟩;have:x.1-k=(x.1-(k+1))+1:=by omega
     rw[this];simpa using f1
def uq(acc:List Nat):List Edge→Nat
 |[]=>0
 |e::r=>if Region.binds .any e then(2 ^ e.on)|||(acc.getD e.on 0)|||uq acc r else uq acc r
def rE(acc:List Nat):List Oper→List Nat
 |[]=>acc
 |o::os=>rE (acc++[uq acc o.after.toList]) os
def C7(m:Nat)(h:c5):Nat→List c5→Bool
 |_,[]=>true
 |i,g::r=>(m.testBit i||y1 g h)&&C7 m h (i+1) r
def CS:List c5→List c5→List Nat→Bool
 |_,[],_=>true
 |pre,h::r,m::ms=>C7 m h 0 pre&&CS (pre++[h]) r ms
 |_,_,[]=>false
def Bf:Nat→List Oper→Bool
 |_,[]=>true
 |k,o::os=>o.after.toList.all (fun e=> !Region.binds .any e||decide (e.on<k))&&Bf (k+1) os
def A3(gs:List c5)(ops:List Oper):Bool:=Bf 0 ops&&CS [] gs (rE [] ops)
theorem KA{acc:List Nat}{j:Nat}:∀{es:List Edge},(uq acc es).testBit j=true→∃e∈es,Region.binds .any e=true∧(j=e.on∨(acc.getD e.on 0).testBit j=true)
 |[],h=>by simp[uq]at h
 |e::r,h=>by
  simp only[uq]at h;split at h
  ·rename_i ae;simp only[Nat.testBit_or,lF]at h;rcases h with(h|h)|h
   ·refine⟨e,by simp,ae,.inl ?_⟩;rw[Nat.testBit_two_pow]at h;have cr:e.on=j:=by simpa using h
    exact cr.symm
   ·exact⟨e,by simp,ae,.inr h⟩
   ·obtain⟨fE,J,U⟩:=KA h;exact⟨fE,by simp[J],U⟩
  ·obtain⟨fE,J,U⟩:=KA h;exact⟨fE,by simp[J],U⟩
theorem KB:∀(os:List Oper) (acc:List Nat) (k:Nat),k<acc.length→(rE acc os)[k]? =acc[k]?
 |[],acc,k,_=>rfl
 |o::os,acc,k,h=>by simp only[rE];rw[KB os _ k (by simp;omega),List.getElem?_append_left h]
theorem T6:∀(os:List Oper) (acc:List Nat) (k:Nat) (o:Oper),os[k]? =some o→∃tu,(rE acc os)[acc.length+k]? =some (uq tu o.after.toList)∧tu.length=acc.length+k∧∀i,i<tu.length→tu[i]? =(rE acc os)[i]?
 |[],acc,k,o,h=>by simp at h
 |o'::os,acc,0,o,h=>by
  simp only[List.getElem?_cons_zero,dE]at h;subst h;refine⟨acc,?_,by simp,fun i hi=>?_⟩
  ·simp only[rE,Nat.add_zero];rw[KB os _ _ (by simp)];simp
  ·simp only[rE];rw[KB os _ i (by simp;omega),List.getElem?_append_left hi]
 |o'::os,acc,k+1,o,h=>by simp only[List.getElem?_cons_succ]at h;obtain⟨tu,J,U,ao⟩:=T6 os (acc++[uq acc o'.after.toList]) k o h;refine⟨tu,?_,by rw[U];simp;omega,fun i hi=>by rw[ao i hi];rfl⟩;simp only[rE];rw[show acc.length+(k+1)=(acc++[uq acc o'.after.toList]).length+k from by simp;omega];exact J
def M8(ops:Array Oper)(hA:Array Bool):Prop:= ∀k o,ops[k]? =some o→hA.getD k false=true→∀e∈o.after.toList,Region.binds .any e=true→hA.getD e.on false=true
theorem agC{ops:Array Oper}{hA:Array Bool}(aR:M8 ops hA):∀(k:Nat) (o:Oper),ops[k]? =some o→(∀e∈o.after.toList,Region.binds .any e=true→hA.getD e.on false=true)→∀j,((rE [] ops.toList).getD k 0).testBit j=true→hA.getD j false=true:=by
 intro k;induction k using Nat.strongRecOn with
 |_ k bN=>
  intro o av ar j af;obtain⟨tu,J,U,ao⟩:=T6 ops.toList [] k o (by simpa using av);simp only[List.length_nil,Nat.zero_add]at J U;rw[List.getD_eq_getElem?_getD,J]at af;obtain⟨e,he,ae,cS⟩:=KA af;rcases cS with rfl|cS
  ·exact ar e he ae
  ·by_cases bA:e.on<tu.length
   ·have hm:tu.getD e.on 0=(rE [] ops.toList).getD e.on 0:=by rw[List.getD_eq_getElem?_getD,ao _ bA,List.getD_eq_getElem?_getD]
    have ab:k<ops.size:=(Array.getElem?_eq_some_iff.1 av).1;have hK:ops[e.on]? =some ops[e.on]:=Array.getElem?_eq_getElem (by omega);rw[hm]at cS;exact bN e.on (by omega) _ hK (fun fE vi fI=>aR e.on _ hK (ar e he ae) fE vi fI) j cS
   ·rw[List.getD_eq_getElem?_getD,p5 (by omega)]at cS;simp at cS
theorem Wc{m:Nat}{h:c5}:∀{gs:List c5} {i0:Nat},C7 m h i0 gs=true→∀i g,gs[i]? =some g→m.testBit (i0+i)=true∨y1 g h=true
 |[],i0,_,i,g,a8=>by simp at a8
 |fe::r,i0,aK,0,g,a8=>by simp only[C7,cA,lF]at aK;simp only[List.getElem?_cons_zero,dE]at a8;subst a8;simpa using aK.1
 |fe::r,i0,aK,i+1,g,a8=>by simp only[C7,cA]at aK;have:=Wc aK.2 i g (by simpa using a8);rwa[show i0+1+i=i0+(i+1)from by omega]at this
theorem UZ:∀{gs pre:List c5} {ms:List Nat},CS pre gs ms=true→∀j h,gs[j]? =some h→∀i g,i<pre.length+j→(pre++gs)[i]? =some g→(ms.getD j 0).testBit i=true∨y1 g h=true
 |[],pre,ms,_,j,h,af,_,_,_,_=>by simp at af
 |cr::r,pre,[],bH,j,h,af,_,_,_,_=>by simp[CS]at bH
 |cr::r,pre,m::ms,bH,j,h,af,i,g,hi,a8=>by
  simp only[CS,cA]at bH;cases j with
  |zero=>simp only[List.getElem?_cons_zero,dE]at af;subst af;rw[List.getElem?_append_left (by omega)]at a8;simpa using Wc bH.1 i g a8
  |succ j=>have:=UZ bH.2 j h (by simpa using af) i g (by simp;omega) (by simpa using a8);simpa using this
theorem Qr:∀{os:List Oper} {k:Nat},Bf k os=true→∀i o,os[i]? =some o→∀e∈o.after.toList,Region.binds .any e=true→e.on<k+i
 |[],k,_,i,o,av,_,_,_=>by simp at av
 |o'::os,k,h,0,o,av,e,he,ae=>by simp only[Bf,cA,ir]at h;simp only[List.getElem?_cons_zero,dE]at av;subst av;have:=h.1 e he;simpa[ae]using this
 |o'::os,k,h,i+1,o,av,e,he,ae=>by simp only[Bf,cA]at h;have:=Qr h.2 i o (by simpa using av) e he ae;omega
theorem Rx{N:Nat}{bz:List (Nat×dA)}{ops:List Oper}:∀{gs:List c5} {os:List Oper},ka N bz ops gs os=true→∀(i:Nat) (g:c5),gs[i]? =some g→∃o,os[i]? =some o∧Bt N bz ops g o=true
 |[],[],_,i,g,h=>by simp at h
 |[],_::_,h,_,_,_=>by simp[ka]at h
 |_::_,[],h,_,_,_=>by simp[ka]at h
 |fe::gs,o::os,h,0,g,a8=>by simp only[ka,cA]at h;simp only[List.getElem?_cons_zero,dE]at a8;subst a8;exact⟨o,by simp,h.1⟩
 |fe::gs,o::os,h,i+1,g,a8=>by simp only[ka,cA]at h;obtain⟨o',J,U⟩:=Rx h.2 i g (by simpa using a8);exact⟨o',by simpa using J,U⟩
theorem I4{N:Nat}{bz:List (Nat×dA)}{ops:List Oper}:∀{gs:List c5} {os:List Oper},ka N bz ops gs os=true→gs.length=os.length
 |[],[],_=>rfl
 |[],_::_,h=>by simp[ka]at h
 |_::_,[],h=>by simp[ka]at h
 |g::gs,o::os,h=>by simp only[ka,cA]at h;simp[I4 h.2]
theorem VX{l:Array Bool}:∀(gs:List c5) (k:Nat),rem l k gs=[]∨ ∃i g,i<gs.length∧gs[i]? =some g∧l.getD (k+i) false=false∧∀j,j<i→l.getD (k+j) false=true
 |[],_=>.inl rfl
 |g::r,k=>by
  by_cases h:l.getD k false=true
  ·rcases VX (l:=l) r (k+1)with J|⟨i,fe,J,U,ao,a7⟩
   ·left;simp only[rem,h,if_true,J]
   ·refine .inr ⟨i+1,fe,by simp;omega,by simpa using U,by rw[show k+(i+1)=k+1+i from by omega];exact ao,fun j af=>?_⟩;cases j with
    |zero=>simpa using h
    |succ j=>rw[show k+(j+1)=k+1+j from by omega];exact a7 j (by omega)
  ·exact .inr ⟨0,g,by simp,by simp,by simpa using h,fun j af=>by omega⟩
theorem Yj{P:cB}{bz:List (Nat×dA)}(aL:fN P bz=true){C:fc}{q:Bool}{n0:Nat}{ops:Array Oper}{gs:List c5}(kf:ka C.N bz ops.toList gs ops.toList=true)(EI:A3 gs ops.toList=true){K:de→Prop}{Q:Exit→Act→World→Prop}
  (hF:∀A a w,K A→wI C A a w→Q .normal a w):∀(fuel:Nat) (hA:Array Bool) (A:de) (a:Act) (w:World),hA.size=ops.size→M8 ops hA→(rem hA 0 gs).length≤fuel→u4 P q n0 K (rem hA 0 gs) A→wI C A a w→wpAny P .any ops Q fuel hA a w:=by
 simp only[A3,cA]at EI;obtain⟨Jd,ae0⟩:=EI;have hlen:gs.length=ops.size:=by simpa using I4 kf
 have RS:∀(hA:Array Bool) (A:de) (a:Act) (w:World),hA.size=ops.size→u4 P q n0 K (rem hA 0 gs) A→wI C A a w→Region.ready .any ops hA=[]→Q .normal a w:=by
  intro hA A a w eh su aK E6;rcases VX (l:=hA) gs 0 with h|⟨i,g,J,U,ao,a7⟩
  ·rw[h]at su;exact hF A a w su aK
  ·exfalso;have hi:i<ops.size:=by omega
   have il:i∈Region.ready .any ops hA:=by
    unfold Region.ready;simp only[nk,List.mem_range,cA,Bool.not_eq_true'];refine⟨hi,?_,?_⟩
    ·rw[Nat.zero_add]at ao;simp only[Array.getD_eq_getD_getElem?]at ao⊢;rw[Array.getElem?_eq_getElem (by omega)]at ao⊢;simpa using ao
    ·rw[Array.getElem?_eq_getElem hi];simp only[nS,k7];rw[←Array.all_toList,ir];intro e he;by_cases ae:Region.binds .any e=true
     ·have bA:=Qr Jd i ops[i] (by simp[hi]) e he ae;have:=a7 e.on (by omega);rw[Nat.zero_add]at this;simp[this]
     ·simp[ae]
   rw[E6]at il;simp at il
 intro fuel;induction fuel with
 |zero=>
  intro hA A a w eh aR aH su aK;have aeU:rem hA 0 gs=[]:=List.eq_nil_of_length_eq_zero (by omega);have E6:Region.ready .any ops hA=[]:=by
   rw[List.eq_nil_iff_forall_not_mem];intro i hi;unfold Region.ready at hi;simp only[nk,List.mem_range,cA,Bool.not_eq_true']at hi;obtain⟨J,U,_⟩:=hi;have aA:hA.getD i false=false:=by simp only[Array.getD_eq_getD_getElem?]at U⊢;rw[Array.getElem?_eq_getElem (by omega)]at U⊢;simpa using U
   obtain⟨nT,oO,g,_,aC,_⟩:=LU (by omega) aA gs 0 (by omega) (by omega);rw[aeU]at aC;simp at aC
  exact⟨E6,RS hA A a w eh su aK E6⟩
 |succ fuel bN=>
  intro hA A a w eh aR aH su aK;refine⟨RS hA A a w eh su aK,fun i hi=>?_⟩;unfold Region.ready at hi;simp only[nk,List.mem_range,cA,Bool.not_eq_true']at hi;obtain⟨J,U,ao⟩:=hi;have aA:hA.getD i false=false:=by simp only[Array.getD_eq_getD_getElem?]at U⊢;rw[Array.getElem?_eq_getElem (by omega)]at U⊢;simpa using U
  have av:ops[i]? =some ops[i]:=Array.getElem?_eq_getElem J;have RU:∀e∈ops[i].after.toList,Region.binds .any e=true→hA.getD e.on false=true:=by rw[av]at ao;simp only[nS,k7]at ao;rw[←Array.all_toList,ir]at ao;intro e he ae;simpa[ae]using ao e he
  obtain⟨nT,oO,g,ak,aC,bj,dd⟩:=LU (by omega) aA gs 0 (by omega) (by omega);simp only[Nat.sub_zero]at ak dd;rw[aC]at su;obtain⟨x,ad,ad8⟩:=NQ nT oO A (fun y aM=>by
   obtain⟨f1,f2,f3,f4⟩:=dd y aM;rcases UZ ae0 i g ak y.1 y.2 (by simpa using f3) (by simpa using f1)with h|h
   ·have:=agC aR i ops[i] av RU y.1 h;rw[f4]at this;cases this
   ·exact h) su
  obtain⟨o',g1,g2⟩:=Rx kf i g ak;have:o'=ops[i]:=by rw[tg,av]at g1;exact(fl g1).symm
  subst this;refine XP aL av g2 ad aK fun bn w' dC=>?_;refine bN (hA.setIfInBounds i true) (A.do x) bn w' (by simpa using eh) ?_ ?_ (by rw[bj];exact ad8) dC
  ·intro k o ab ar e he ae;rw[EA (by omega)]at ar⊢;split
   ·rfl
   ·by_cases vk:i=k
    ·subst vk;rw[av]at ab;cases ab;exact RU e he ae
    ·rw[if_neg vk]at ar;exact aR k o ab ar e he ae
  ·rw[bj];rw[aC]at aH;simp at aH⊢;omega
def w4(n0 d:Nat)(st:bp):Prop:= .loc (n0+d)∉st.o∧look (.loc (n0+d)) st.b=none∧look (.loc (n0+d)) st.e=none
def fP.loadO(q:Bool)(t:List (Nat×ah)):fP→Prop
 | .load _ _ x=>q=true∨xE (cm t x)=true
 | .loadB _ _ _=>True
 | .mgetB _ _ _ _ _=>True
 | .mget _ _ _ _ _=>q=true
 | .ment _=>q=true
 | .mlen _=>q=true
 |_=>True
def lJ(q:Bool)(nw:List Nat)(n0:Nat)(st:bp):ek→Prop
 | .v _ i=>i.loadO q st.t
 | .box d none _=>w4 n0 d st
 | .alloc d none _=>w4 n0 d st
 | .box _ (some _) _=>eR
 | .alloc _ (some _) _=>eR
 | .store _ x _=>match cm st.t x with| .ptr _ _=>True|_=>eR
 | .bslm _ _ _ _ _=>eR
 | .mks _ _ _ _ _ _=>eR
 | .appm _ _ _ _ x _=>match cm st.t x with| .row _ _ _=>True|_=>eR
 | .storeE _ _ _=>True
 | .mkmap _ none=>eR
 | .mkmap _ (some m)=>m∈nw∧look (.obj m) st.b=none∧look (.obj m) st.e=none
 | .mput _ _ _ _=>True
 | .range _ _ _=>eR
 | .bsl d _ _ _=>w4 n0 d st
 | .app d _ _ x _=>match cm st.t x with
  | .slice _ .nil _=>w4 n0 d st
  | .slice _ (.own k) _=>(look k st.e).bind (·.xs)=none
  |_=>True
def oX(n0:Nat):ek→aD
 | .mkmap _ (some m)=>.obj m
 | .v d _| .box d _ _| .alloc d _ _| .bsl d _ _ _| .app d _ _ _ _| .bslm d _ _ _ _| .appm d _ _ _ _ _| .mkmap d _| .range d _ _| .mks d _ _ _ _ _=>.loc (n0+d)
 | .store _ _ _| .mput _ _ _ _| .storeE _ _ _=>.loc n0
def af5(nw:List Nat)(st:bp)(s ai:cE)(rm:aY aD):Prop:=(∀k,(look k ai.b).isSome→(look k s.b).isSome∨rm=some k)∧(∀k,(look k ai.e).isSome→(look k s.e).isSome∨rm=some k)∧(∀k,(look k s.b).isSome→(look k ai.b).isSome)∧(∀k,(look k s.e).isSome→(look k ai.e).isSome)∧
 (∀k,rm=some k→(∃j,j∈nw∧k= .obj j)∧look k st.b=none∧look k st.e=none∧((look k ai.b).isSome∨(look k ai.e).isSome))
def h1(P:cB)(q:Bool)(nw:List Nat)(n:Nat)(args:List ah)(st:bp)(d:aY Nat)(K:bp→Prop):Prop:=
 (∃cG r,d=some cG∧w4 st.n cG st∧aG (fun _=>eR) args∧Hh P n (st.n+cG) args ⟨[],[]⟩ (fun eF dG=>eF=r∧dG=⟨[],[]⟩)∧K {st with t:=put cG r st.t,o:= .loc (st.n+cG)::st.o})∨
 ∃s ai r rm,gE (inObs s) s.b st.b∧oA (inObs s) s.e st.e∧iJ s∧iJ ai∧af5 nw st s ai rm∧aG (inObs s) args∧bF P n args s (fun eF dG=>eF=r∧dG=ai)∧(q=true→ai.b=[]∧ai.e=[])∧K {after st s ai d r with o:=st.o}
def j8(P:cB)(q:Bool)(nw:List Nat)(n0:Nat)(st:bp)(K:bp→Prop):ee→Prop
 | .s i=>match eB (oX n0 i) st.n (oX n0 i::st.o) st i with
  |some (c,st')=>lJ q nw n0 st i∧c∧K st'
  |none=>eR
 | .call d f xs=>match cm st.t f with
  | .func n da=>h1 P q nw n (cY (xs.map (cm st.t)++da)) st d K
  |_=>eR
 | .next _ _=>eR
def hJ(P:cB)(q:Bool)(nw:List Nat)(n0:Nat):List c5→bp→(bp→Prop)→Prop
 |[],st,K=>K st
 |⟨none,i⟩::r,st,K=>j8 P q nw n0 st (fun st'=>hJ P q nw n0 r st' K) i
 |⟨some (s,want),i⟩::r,st,K=>match get s st.t with
  | .bool b=>(b=want→j8 P q nw n0 {st with t:=put s (.bool want) st.t} (fun st'=>hJ P q nw n0 r st' K) i)∧(b= !want→hJ P q nw n0 r {st with t:=eM i.dst (.tuple []) (put s (.bool !want) st.t)} K)
  | .tuple []=>hJ P q nw n0 r {st with t:=eM i.dst (.tuple []) st.t} K
  |_=>eR
structure r6 (nw:List Nat) (n0 N:Nat) (pk:List aD) (st:bp) (A:de):Prop where
 like:k9 st A
 n:st.n=n0
 F:∀k,fresh n0 st.o k→(∀j∈nw,k≠ .obj j)→A.F k
 o:∀k∈st.o,k∈pk∨(∃d,d<N∧k= .loc (n0+d))∨ ∃j∈nw,k= .obj j
def AV(nw:List Nat)(A:de):Prop:= ∀j∈nw,A.b (.obj j)=none→A.e (.obj j)=none→A.F (.obj j)
theorem AV.do{P:cB}{q:Bool}{n0:Nat}{nw:List Nat}{A:de}(h:AV nw A){g:c5}{x:kv}(ad:kx P q n0 g A x):AV nw (A.do x):=by
 intro j af ae he;refine⟨h j af (Ig ae) (Ih he),fun qk=>?_⟩;rcases(MB ad).r _ qk with⟨d,_,e⟩|⟨_,_,ag⟩
 ·cases e
 ·rcases ag with ag|ag
  ·obtain⟨y,aM⟩:=fL.1 ag;simp[de.do,ij,aM]at ae
  ·obtain⟨y,aM⟩:=fL.1 ag;simp[de.do,ij,aM]at he
theorem Qz{P:cB}{q:Bool}{nw:List Nat}{n0 N:Nat}{pk:List aD}{i:ee}(aR:∀d,i.dst=some d→d<N){st:bp}{A:de}(h:r6 nw n0 N pk st A)(n5:AV nw A){K:bp→Prop}(he:j8 P q nw n0 st K i):∃x st',ep P q n0 i A x∧K st'∧r6 nw n0 N pk st' (A.do x):=by
 have ar:=h.like;have xg:∀d,w4 n0 d st→(A.F (.loc (n0+d))∧A.b (.loc (n0+d))=none∧A.e (.loc (n0+d))=none):=fun d aH=>⟨h.F _ ⟨by simp,aH.1⟩ (fun _ _ e=>by cases e),by rw[←ar.b];exact aH.2.1,by rw[←ar.e];exact aH.2.2⟩;have mK:∀(d:aY Nat) (p:ah) (bw:List (aD×List ah)) (ew:List (aD×fM)) (κ:aD),∀k,fresh n0 (κ::st.o) k→(∀j∈nw,k≠ .obj j)→(A.do ⟨d,p,bw,ew,some κ⟩).F k:=fun d p bw ew κ k ab af=>⟨h.F k (va k ab).1 af,fun e=>(va k ab).2 (fl e).symm⟩;have w8:∀(d:aY Nat) (p:ah) (bw:List (aD×List ah)) (ew:List (aD×fM)),∀k,fresh n0 st.o k→(∀j∈nw,k≠ .obj j)→(A.do ⟨d,p,bw,ew,none⟩).F k:=fun d p bw ew k ab af=>⟨h.F k ab af,by simp⟩;have lp:∀d,d<N→∀k∈aD.loc (n0+d)::st.o,k∈pk∨(∃d,d<N∧k= .loc (n0+d))∨ ∃j∈nw,k= .obj j:=fun d aR k ab=>by
  rcases fK.1 ab with rfl|ab
  ·exact .inr (.inl ⟨d,aR,rfl⟩)
  ·exact h.o k ab
 cases i with
 |s i=>
  cases i with
  |v d i=>
   simp only[j8,eB]at he;cases aJ:hg st i with
   |none=>simp[aJ]at he
   |some Ic=>
    obtain⟨c,p⟩:=Ic;simp only[aJ]at he;obtain⟨J,U,ao⟩:=he;refine⟨⟨some d,p,[],[],none⟩,_,⟨c,p,by rw[←WV ar];exact aJ,U,fun ny=>?_,rfl⟩,ao,Kr ar d p,h.n,w8 _ _ _ _,h.o⟩;cases i<;>simp only[fP.isLoad]at ny<;>try(cases ny;done)
    case mget=>exact .inr (.inl J)
    case ment=>exact .inr (.inl J)
    case mlen=>exact .inr (.inl J)
    case loadB=>exact .inl rfl
    case mgetB=>exact .inl rfl
    simp only[lJ,fP.loadO,iB ar]at J;exact .inr (by simpa only[fP.ptrOf]using J)
  |box d key v=>
   cases key with
   |some m=>simp only[j8,eB,lJ,false_and]at he
   |none=>simp only[j8,eB,lJ,oX]at he;obtain⟨J,U,ao⟩:=he;rw[iB ar]at U;refine⟨_,_,⟨xg d J,U,rfl⟩,ao,?_,h.n,mK _ _ _ _ _,lp d (aR d rfl)⟩;rw[iB ar];exact zL ar d _ _ _ _ _ _
  |alloc d key z=>
   cases key with
   |some m=>simp only[j8,eB,lJ,false_and]at he
   |none=>simp only[j8,eB,lJ,oX]at he;obtain⟨J,U,ao⟩:=he;exact⟨_,_,⟨xg d J,rfl⟩,ao,zL ar d _ _ _ _ _ _,h.n,mK _ _ _ _ _,lp d (aR d rfl)⟩
  |store sz u v=>
   simp only[j8,eB]at he;cases hu:cm st.t u with
   |ptr k off=>
    cases ae:look k st.b with
    |none=>simp[hu,ae]at he
    |some cs=>simp only[hu,ae]at he;obtain⟨J,U,ao⟩:=he;rw[iB ar]at U hu;refine⟨⟨none,.junk,[(k,nH cs off (cells (dv A.t v)))],[],none⟩,_,⟨k,off,cs,hu,by rw[←ar.b];exact ae,U,rfl⟩,ao,?_,h.n,w8 _ _ _ _,h.o⟩;rw[iB ar];exact FD ar k _ _
   |_=>
    exfalso;simp only[hu]at he;split at he
    ·have:=he.1;simp[lJ,hu]at this
    ·exact he
  |bsl d sz el xs=>simp only[j8,eB,lJ,oX]at he;obtain⟨J,U,ao⟩:=he;rw[tH ar]at U;refine⟨_,_,⟨xg d J,U,rfl⟩,ao,?_,h.n,mK _ _ _ _ _,lp d (aR d rfl)⟩;rw[tH ar];exact vM ar d _ _ _ _ _ _
  |app d sz el u v=>
   simp only[j8,eB]at he;cases hu:cm st.t u with
   |slice dD tag xs=>
    cases aJ:cm st.t v with
    |slice iZ kH ys=>
     simp only[hu,aJ]at he;by_cases e9:dD=sz∧iZ=sz
     ·obtain⟨rfl,rfl⟩:=e9;rw[iB ar]at hu aJ;cases tag with
      |no=>simp at he
      |tr k j=>simp at he
      |lo k=>simp at he
      |nil=>simp only[and_self,if_true,lJ,iB ar,hu,oX]at he;obtain⟨J,U,ao⟩:=he;exact⟨_,_,⟨.nil,xs,kH,ys,hu,aJ,.inr ⟨rfl,U,xg d J,rfl⟩⟩,ao,vM ar d _ _ _ _ _ _,h.n,mK _ _ _ _ _,lp d (aR d rfl)⟩
      |own k=>
       cases ab:look k st.e with
       |none=>simp[ab]at he
       |some o=>simp only[and_self,if_true,ab]at he;obtain⟨J,U,ao⟩:=he;exact⟨_,_,⟨.own k,xs,kH,ys,hu,aJ,.inl ⟨k,o,rfl,by rw[←ar.e];exact ab,⟨by simpa[lJ,iB ar,hu,ab]using J,U⟩,rfl⟩⟩,ao,vM ar d _ _ _ _ _ _,h.n,w8 _ _ _ _,h.o⟩
     ·simp[e9]at he
    |_=>simp[hu,aJ]at he
   |_=>simp[hu]at he
  |bslm d key sz el xs=>simp only[j8,eB,lJ,false_and]at he
  |mks d key sz el z x=>simp only[j8,eB,lJ,false_and]at he;split at he<;>simp at he
  |appm d key sz el u v=>
   simp only[j8,eB]at he;cases hu:cm st.t u with
   |row dD k n=>
    cases aJ:cm st.t v with
    |slice iZ kH ys=>
     simp only[hu,aJ,sc]at he;by_cases e9:dD=sz∧iZ=sz
     ·obtain⟨rfl,rfl⟩:=e9;rw[iB ar]at hu aJ;simp only[and_self,if_true]at he;cases ab:look k st.e with
      |none=>simp[ab]at he
      |some o=>
       obtain⟨n',fR,wk,Lf⟩:=o;cases Lf with
       |none=>simp[ab]at he
       |some xs=>
        simp only[ab]at he;by_cases xc:n'=n∧fR=el∧wk=iZ
        ·obtain⟨rfl,rfl,rfl⟩:=xc;simp only[and_self,if_true]at he;obtain⟨J,U,ao⟩:=he;exact⟨_,_,⟨k,n',xs,kH,ys,hu,aJ,by rw[←ar.e];exact ab,U,rfl⟩,ao,vM ar d _ _ _ _ _ _,h.n,w8 _ _ _ _,h.o⟩
        ·simp[xc]at he
     ·simp[e9]at he
    |_=>simp[hu,aJ,sc]at he
   |slice dD tag xs=>
    exfalso;simp only[hu]at he;split at he
    ·have:=he.1;simp[lJ,hu]at this
    ·exact he
   |_=>simp[hu,sc]at he
  |storeE sz u v=>
   simp only[j8,eB]at he;cases hu:cm st.t u with
   |rptr dD k n i f=>
    cases ab:look k st.e with
    |none=>simp[hu,qI,ab]at he
    |some o=>
     obtain⟨n',el,wk,Lf⟩:=o;cases Lf with
     |none=>simp[hu,qI,ab]at he
     |some xs=>
      simp only[hu,qI,ab]at he;by_cases xc:n'=n∧wk=dD
      ·obtain⟨rfl,rfl⟩:=xc;simp only[and_self,if_true]at he;cases br:xs[i]? with
       |none=>simp[br]at he
       |some q=>simp only[br]at he;obtain⟨J,U,ao⟩:=he;rw[iB ar]at U hu;refine⟨⟨none,.junk,[],[(k,⟨n',el,wk,some (xs.set i (mu q f (cells (dv A.t v))))⟩)],none⟩,_,⟨k,n',i,f,el,wk,xs,q,hu,by rw[←ar.e];exact ab,br,U,rfl⟩,ao,?_,h.n,w8 _ _ _ _,h.o⟩;rw[iB ar];exact TX ar k _ _
      ·simp[xc]at he
   |_=>simp[hu,qI]at he
  |mkmap d key=>
   cases key with
   |none=>simp only[j8,eB,lJ,false_and]at he
   |some m=>
    simp only[j8,eB,lJ,oX]at he;obtain⟨⟨bq,J,U⟩,_,ao⟩:=he;rw[ar.b]at J;rw[ar.e]at U;refine⟨_,_,⟨⟨n5 m bq J U,J,U⟩,rfl⟩,ao,zL ar d _ _ _ _ _ _,h.n,mK _ _ _ _ _,fun k ab=>?_⟩;rcases fK.1 ab with rfl|ab
    ·exact .inr (.inr ⟨m,bq,rfl⟩)
    ·exact h.o k ab
  |mput ca u k v=>
   simp only[j8,eB,lJ]at he;cases hu:cm st.t u with
   |gmap m=>
    cases ae:look m st.b with
    |none=>simp[hu,ae]at he
    |some cs=>
     cases hm:ou ca (cm st.t k) (cm st.t v) cs with
     |none=>simp[hu,ae,hm]at he
     |some cs'=>simp only[hu,ae,hm]at he;rw[iB ar]at hu;rw[iB ar,iB ar]at hm;exact⟨⟨none,.junk,[(m,cs')],[],none⟩,_,⟨m,cs,cs',hu,by rw[←ar.b];exact ae,hm,rfl⟩,he.2.2,FD ar m _ _,h.n,w8 _ _ _ _,h.o⟩
   |_=>simp[hu]at he
  |range d key x=>simp only[j8,lJ,false_and]at he;split at he<;>exact he.elim
 |next d x=>simp only[j8]at he
 |call d f xs=>
  simp only[j8]at he;cases aH:cm st.t f with
  |func n da=>
   simp only[aH]at he;rw[iB ar]at aH;rcases he with⟨cG,r,rfl,bG,ch,c3,hD⟩|⟨s,ai,r,rm,bG,ch,c3,hD,j7,oV,A9,YJ,YK⟩
   ·rw[tH ar]at ch c3;have aA:=h.n;subst aA;refine⟨⟨some cG,r,[],[],some (.loc (st.n+cG))⟩,_,⟨n,da,aH,.inr ⟨cG,r,rfl,xg cG bG,ch,c3,rfl⟩⟩,hD,TY ar cG r _ _,rfl,mK _ _ _ _ _,lp cG (aR cG rfl)⟩
   rw[tH ar]at oV A9;obtain⟨aZ,bI,ck,eK,c8⟩:=j7;refine⟨⟨d,r,ai.b,ai.e,rm⟩,_,⟨n,da,aH,.inl ⟨⟨s,ai,r,rm,fun k cs ab=>⟨by rw[←ar.b];exact(bG k cs ab).1,(bG k cs ab).2.2⟩,fun k o ab=>⟨by rw[←ar.e];exact(ch k o ab).1,(ch k o ab).2.2⟩,c3,hD,⟨aZ,bI,ck,eK,fun k ab=>?_⟩,oV,A9,rfl⟩,YJ⟩⟩,YK,⟨fun i=>?_,fun k=>?_,fun k=>?_⟩,h.n,fun k ab af=>⟨h.F k ab af,fun qk=>?_⟩,h.o⟩
   ·obtain⟨⟨j,af,rfl⟩,aC,bj,dd⟩:=c8 k ab;rw[ar.b]at aC;rw[ar.e]at bj;exact⟨⟨j,rfl⟩,n5 j af aC bj,aC,bj,dd⟩
   ·simp only[after,de.do];cases d with
    |none=>simpa[eM]using ar.t i
    |some d=>simp only[eM,o4,dE,ar.t]
   ·simp only[after,de.do,ij,xO,uo];by_cases ag:(look k s.b).isSome
    ·have:=ck k ag;obtain⟨y,aM⟩:=fL.1 this;simp[ag,aM]
    ·cases aA:look k ai.b with
     |none=>simp only[ag,ar.b];cases A.b k<;>simp
     |some y=>
      rcases aZ k (by simp[aA])with h|h
      ·exact absurd h ag
      ·have:=c8 k h;simp[ag,this]
   ·simp only[after,de.do,ij,xO,uo];by_cases ag:(look k s.e).isSome
    ·have:=eK k ag;obtain⟨y,aM⟩:=fL.1 this;simp[ag,aM]
    ·cases aA:look k ai.e with
     |none=>simp only[ag,ar.e];cases A.e k<;>simp
     |some y=>
      rcases bI k (by simp[aA])with h|h
      ·exact absurd h ag
      ·have:=c8 k h;simp[ag,this]
   ·obtain⟨⟨j,jd,rfl⟩,_⟩:=c8 k qk;exact af j jd rfl
  |_=>simp[aH]at he
def yQ(N:Nat):List c5→Bool
 |[]=>true
 |g::r=>jb N g.i.dst&&yQ N r
def yu:Nat→List c5→List (Nat×c5)
 |_,[]=>[]
 |k,g::r=>(k,g)::yu (k+1) r
theorem Ns{nw:List Nat}{n0 N:Nat}{pk:List aD}{st:bp}{A:de}(h:r6 nw n0 N pk st A){s:Nat}{p:ah}(ag:get s st.t=p):r6 nw n0 N pk {st with t:=put s p st.t} A:=by
 refine⟨⟨fun i=>?_,h.like.b,h.like.e⟩,h.n,h.F,h.o⟩;simp only[o4];split
 ·rename_i e;subst e;rw[←ag];exact h.like.t _
 ·exact h.like.t i
theorem Nt{nw:List Nat}{n0 N:Nat}{pk:List aD}{st:bp}{A:de}(h:r6 nw n0 N pk st A)(d:aY Nat):r6 nw n0 N pk {st with t:=eM d (.tuple []) st.t} (A.do (k1 d)):=by
 refine⟨⟨fun i=>?_,fun k=>?_,fun k=>?_⟩,h.n,fun k ab af=>⟨h.F k ab af,by simp[k1]⟩,h.o⟩
 ·simp only[de.do,k1];cases d with
  |none=>simpa[eM]using h.like.t i
  |some d=>simp only[eM,o4,dE,h.like.t]
 ·simpa[de.do,ij,look,k1]using h.like.b k
 ·simpa[de.do,ij,look,k1]using h.like.e k
theorem Bi{P:cB}{q:Bool}{nw:List Nat}{n0 N:Nat}{pk:List aD}{K:bp→Prop}:∀(gs:List c5) (k:Nat),yQ N gs=true→∀(st:bp) (A:de),r6 nw n0 N pk st A→AV nw A→hJ P q nw n0 gs st K→u4 P q n0 (fun gb=> ∃st',K st'∧r6 nw n0 N pk st' gb) (yu k gs) A
 |[],k,_,st,A,h,_,he=>⟨st,he,h⟩
 |⟨mJ,i⟩::r,k,aR,st,A,h,n5,he=>by
  simp only[yQ,cA]at aR;have sv:∀d,i.dst=some d→d<N:=fun d e=>by have:=aR.1;rw[e]at this;simpa[jb]using this
  simp only[yu,u4];cases mJ with
  |none=>simp only[hJ]at he;obtain⟨x,st',J,U,ao⟩:=Qz sv h n5 he;have a8:kx P q n0 ⟨none,i⟩ A x:=J;exact⟨x,a8,Bi r (k+1) aR.2 st' _ ao (n5.do a8) U⟩
  |some ym=>
   obtain⟨s,want⟩:=ym;simp only[hJ]at he;split at he
   ·rename_i b ae;by_cases e:b=want
    ·subst e;obtain⟨x,st',J,U,ao⟩:=Qz sv (Ns h ae) n5 (he.1 rfl);have a8:kx P q n0 ⟨some (s,b),i⟩ A x:=by unfold kx;simp only[←h.like.t,ae];exact .inl ⟨trivial,J⟩
     exact⟨x,a8,Bi r (k+1) aR.2 st' _ ao (n5.do a8) U⟩
    ·have fI:b= !want:=by cases b<;>cases want<;>simp at e⊢
     subst fI;have a8:kx P q n0 ⟨some (s,want),i⟩ A (k1 i.dst):=by unfold kx;simp only[←h.like.t,ae];exact .inr ⟨trivial,trivial⟩
     exact⟨k1 i.dst,a8,Bi r (k+1) aR.2 _ _ (Nt (Ns h ae) i.dst) (n5.do a8) (he.2 rfl)⟩
   ·rename_i ae;have a8:kx P q n0 ⟨some (s,want),i⟩ A (k1 i.dst):=by unfold kx;simp only[←h.like.t,ae]
    exact⟨k1 i.dst,a8,Bi r (k+1) aR.2 _ _ (Nt h i.dst) (n5.do a8) he⟩
   ·exact he.elim
theorem LS:∀(gs:List c5) (l:Array Bool) (k:Nat),(∀j,l.getD j false=false)→rem l k gs=yu k gs
 |[],_,_,_=>rfl
 |g::r,l,k,h=>by simp only[rem,h k,yu,LS r l (k+1) h];simp
def tj(n:Nat)(o:List aD)(K:bp→Prop)(st:bp):Prop:=K {st with n:=n,o:=o}
theorem Good.like{pr:Nat→Prop}{w:World}{ν:bd}{b b2:List (aD×List ah)}{e fE:List (aD×fM)}(h:Good pr w ν b e)(ae:∀k,look k b2=look k b)(he:∀k,look k fE=look k e):Good pr w ν b2 fE:=
 ⟨h.alt,fun k cs ab=>h.box k cs (by rw[←ae];exact ab),fun k bM bl J U=>h.inj k bM bl (by rw[←ae];exact J) (by rw[←ae];exact U),fun g o a8=>h.own g o (by rw[←he];exact a8),
  fun g fe n n' v v' bl J U=>h.oinj g fe n n' v v' bl (by rw[←he];exact J) (by rw[←he];exact U),fun g k n v bl J U=>h.obx g k n v bl (by rw[←he];exact J) (by rw[←ae];exact U),h.one,
  fun bl aL=>h.otr bl (aL.imp (fun⟨k,bC,a2⟩=>⟨k,by rw[←ae];exact bC,a2⟩) (fun⟨g,n,v,bC,a2⟩=>⟨g,n,v,by rw[←he];exact bC,a2⟩))⟩
theorem QB{P:cB}(hm:P.follows .mixedOrders=true){bz:List (Nat×dA)}(aL:fN P bz=true){C:fc}{q:Bool}{nw:List Nat}{id:Nat}{ops:Array Oper}{gs:List c5}(kf:ka C.N bz ops.toList gs ops.toList=true)(EI:A3 gs ops.toList=true)(iC:yQ C.N gs=true)
  {K:bp→Prop} {Q:Exit→Act→World→Prop} (hF:∀st' bn w' bo,K st'→cT C st' bn w' bo→Q .normal bn w') {st:bp} {a:Act} {w:World} {ν:bd} (aeX:∀j∈nw,.obj j∉st.o) (he:hJ P q nw st.n gs st (tj (st.n+C.N) (nw.map aD.obj++st.o) K)) (aK:cT C st a w ν):(Code.region id ops true).wp P Q a w:=by
 refine wp_region_any hm ?_;have dC:cT C st a {w with drawn:=w.drawn+1} ν:=aK.drawn _;let A:de:=⟨fun i=>get i st.t,fun k=>look k st.b,fun k=>look k st.e,fresh st.n st.o⟩
 have q9:r6 nw st.n C.N st.o st A:=⟨⟨fun _=>rfl,fun _=>rfl,fun _=>rfl⟩,rfl,fun k ab _=>ab,fun k ab=>.inl ab⟩;have su:=Bi gs 0 iC st A q9 (fun j af _ _=>⟨trivial,aeX j af⟩) he;have od:∀j,(Array.replicate ops.size false).getD j false=false:=fun j=>by simp[Array.getD_eq_getD_getElem?,Array.getElem?_replicate];split<;>rfl
 refine Yj aL kf EI (q:=q) (n0:=st.n) (K:=fun gb=> ∃st',tj (st.n+C.N) (nw.map aD.obj++st.o) K st'∧r6 nw st.n C.N st.o st' gb) ?_ ops.size _ A a _ (by simp) ?_ ?_ (by rw[LS gs _ 0 od];exact su) ⟨st,ν,q9.like,fun k ab=>ab,dC⟩
 ·rintro gb bn w' ⟨st',ab,bD⟩ ⟨asz,bo,oc,Bz,me⟩;refine hF _ bn w' bo ab ⟨me.good.like (fun k=>by rw[oc.b,←bD.like.b]) (fun k=>by rw[oc.e,←bD.like.e]),me.fr,me.defers,me.size,fun i=>?_,fun k zk=>?_⟩
  ·have:=me.slot i;rw[oc.t,←bD.like.t]at this;exact this
  ·refine me.new k (Bz k (bD.F k ?_ fun j af e=>zk.2 (by subst e;exact List.mem_append_left _ (List.mem_map_of_mem af))));simp only at zk;refine⟨(IQ (Nat.le_add_right st.n C.N) (fun _ h=>h) zk).1,fun il=>?_⟩;rcases bD.o k il with h|⟨d,aR,rfl⟩|⟨j,af,rfl⟩;rotate_left 2
   ·exact zk.2 (List.mem_append_left _ (List.mem_map_of_mem af))
   ·exact zk.2 (List.mem_append_right _ h)
   ·have:=zk.1;simp at this;omega
 ·intro k o ab ar;rw[od]at ar;cases ar
 ·rw[LS gs _ 0 od];have:∀(gs:List c5) k,(yu k gs).length=gs.length:=by
   intro gs;induction gs with
   |nil=>intro k;rfl
   |cons g r bN=>intro k;simp[yu,bN]
  rw[this];have:=I4 kf;simp at this;omega
def et:List ah→Prop
 |[]=>True
 |p::cu=>(match p with| .slice _ _ xs=>xs.length≤lim| .str s=>s.length≤lim|_=>True)∧et cu
def ef:ah→Prop
 | .slice _ _ xs=>xs.length≤lim
 | .str s=>s.length≤lim
 | .agg cs=>et cs
 |_=>True
def eD:List ah→Prop
 |[]=>True
 |p::r=>ef p∧eD r
theorem LW{w:World}{ν:bd}:∀{cs:List ah} {us:List Value},c4 w ν cs us→et cs
 |[],_,_=>trivial
 |c::cs,us,h=>by
  simp only[c4]at h;obtain⟨u,cj,_,J,U⟩:=h;refine⟨?_,LW U⟩;cases c<;>simp only<;>have ao:=J.1<;>simp only[ba]at ao
  ·exact ao.2
  ·obtain⟨⟨a,cap,_,_,a7,_⟩,_⟩:=ao;exact a7.2
theorem VY{w:World}{ν:bd}{cs:List ah}{us:List Value}(h:iX w ν cs us):gn cs=true→et cs:=fun bH=>by rw[uz bH]at h;exact LW h
theorem Wa{w:World}{ν:bd}{p:ah}{v:Value}(h:ba w ν p v):ef p:=by
 cases p<;>simp only[ef]<;>simp only[ba]at h
 ·exact h.2
 ·obtain⟨⟨a,cap,_,_,a7,_⟩,_⟩:=h;exact a7.2
 ·obtain⟨us,_,U⟩:=h;exact LW U
theorem V8{w:World}{ν:bd}:∀{cs:List ah} {us:List Value},cP w ν cs us→eD cs
 |[],_,_=>trivial
 |c::cs,us,h=>by simp only[cP]at h;obtain⟨u,cj,_,J,U⟩:=h;exact⟨Wa J,V8 U⟩
inductive C where
 |skip
 |region (gs:List c5)
 |drawn (q:Bool) (N:Nat) (gs:List c5)
 |drawnW (nw:List Nat) (N:Nat) (gs:List c5)
 |seq (a b:C)
 |cond (x:dr) (t e:C)
 |block (id:Nat) (c:C)
 |loop (c:C)
 |exit (id:Nat)
 |ret
 |pub (s:Nat) (c:C)
 |pubB (s:Nat) (c:C)
 |fg (pa:Bool) (s:Nat) (c:C)
 |fz (agg:Bool) (s:Nat) (c:C)
 |no
def CV(st:bp):ah→aY (ah×List (aD×fM))
 | .row sz k n=>match look k st.e with
  |some ⟨n',el,dD,some xs⟩=>if n'=n∧dD=sz then some (.slice sz (.own k) xs,cw k ⟨n,el,sz,none⟩ st.e)else none
  |_=>none
 |_=>none
def vZ(st:bp)(s:Nat):aY bp:=
 match CV st (get s st.t)with
 |some (p,e)=>some {st with t:=put s p st.t,e:=e}
 |none=>none
def vY(st:bp)(s:Nat):aY bp:=
 match get (s%1000) st.t with
 | .ptr k off=>match look k st.b with
  |some cs=>match cs[off+s/1000]? with
   |some p=>match CV st p with
    |some (Aa,e)=>if gn cs then some {st with b:=cw k (cs.set (off+s/1000) Aa) st.b,e:=e}else none
    |none=>none
   |none=>none
  |none=>none
 |_=>none
theorem LR{C:fc}{st:bp}{a:Act}{w:World}{ν:bd}(h:cT C st a w ν){s:Nat}{p:ah}(ag:ba w ν p (a.tmps.getD s undef)):cT C {st with t:=put s p st.t} a w ν:=by
 refine⟨h.good,h.fr,h.defers,h.size,fun i=>?_,h.new⟩;have:=h.slot i;simp only[o4];split
 ·rename_i e;subst e;exact ag
 ·exact this
theorem U5{C:fc}{st:bp}{a:Act}{w:World}{ν:bd}(h:cT C st a w ν){p Aa:ah}{e:List (aD×fM)}{v:Value}(bH:ba w ν p v)(he:CV st p=some (Aa,e)):
  ∃bo,cT C {st with e:=e} a w bo∧ba w bo Aa v∧la w ν w bo:=by
 unfold CV at he;split at he
 ·rename_i sz k n;split at he
  ·rename_i n' el dD xs ab;split at he
   ·rename_i aw;obtain⟨rfl,rfl⟩:=aw;cases he;simp only[ba]at bH;obtain⟨_,ar,n0,u,J,U,ao⟩:=bH;obtain⟨v0,fu,a6,bB,bS,c1⟩:=h.good.own k _ ab;rw[J]at a6;simp only[dE,jj]at a6;obtain⟨rfl,rfl⟩:=a6;have aJ:v=u:=ao rfl;subst aJ;obtain⟨c9,_,_⟩:=c1 xs rfl;simp only at c9;obtain⟨g1,g2⟩:=h.publish ab rfl J (by rw[c9];exact ar);refine⟨_,g1,g2,⟨fun b o bh=>⟨.inl bh,rfl⟩,fun j b _ af=>af,fun g n u _ iD=>⟨n,u,?_,.inl ⟨rfl,rfl⟩⟩,fun _ _ _=>rfl,fun _ _ _ _ h=>h⟩⟩;simp only[bd.withRowOf];split
    ·rename_i e;subst e;rw[J]at iD;exact iD
    ·exact iD
   ·cases he
  ·cases he
 ·cases he
def yY(pa:Bool):ah→ah
 | .slice sz tag xs=>.slice sz (if pa then tag else .no) (cY xs)
 |p=>dm p
theorem acE{w:World}{ν:bd}{pa:Bool}{p:ah}{v:Value}(h:ba w ν p v):ba w ν (yY pa p) v:=by
 have J:=yc p v h;cases p with
 |slice sz tag xs=>
  simp only[yY];cases pa with
  |false=>simpa only[gT,if_false,dm]using J
  |true=>
   simp only[if_true];simp only[ba,dm]at h J⊢;refine⟨J.1,fun e=>h.2.1 e,fun g e=>?_,fun k j e=>?_,fun k e=>?_⟩
   ·obtain⟨n,u,ak,aC,bj⟩:=h.2.2.1 g e;exact⟨n,u,ak,by rw[uN];exact aC,by rw[uN];exact bj⟩
   ·exact Ra _ _ (h.2.2.2.1 k j e)
   ·exact Ra _ _ (h.2.2.2.2 k e)
 |_=>exact J
theorem ajq{C:fc}{st st':bp}{a:Act}{w:World}{ν:bd}(h:cT C st a w ν){s:Nat}(he:vZ st s=some st'):∃bo,cT C st' a w bo:=by
 unfold vZ at he;split at he
 ·rename_i p e bH;cases he;obtain⟨bo,J,U,_⟩:=U5 h (h.slot s) bH;exact⟨_,LR J U⟩
 ·cases he
theorem V5{w:World}{ν:bd}:∀{cs:List ah} {us:List Value} {i:Nat} {p q:ah} {v:Value},c4 w ν cs us→cs[i]? =some p→us[i]? =some v→ba w ν q v→c4 w ν (cs.set i q) us
 |[],_,_,_,_,_,_,h,_,_=>by simp at h
 |c::cs,us,0,p,q,v,h,_,aJ,br=>by simp only[c4]at h;obtain⟨u,cj,rfl,J,U⟩:=h;simp only[List.getElem?_cons_zero,dE]at aJ;subst aJ;simp only[List.set_cons_zero,c4];exact⟨_,_,rfl,⟨br,J.2⟩,U⟩
 |c::cs,us,i+1,p,q,v,h,bH,aJ,br=>by simp only[c4]at h;obtain⟨u,cj,rfl,J,U⟩:=h;simp only[List.set_cons_succ,c4];exact⟨_,_,rfl,J,V5 U (by simpa using bH) (by simpa using aJ) br⟩
theorem ajp{C:fc}{st st':bp}{a:Act}{w:World}{ν:bd}(h:cT C st a w ν){s:Nat}(he:vY st s=some st'):∃bo,cT C st' a w bo:=by
 unfold vY at he;split at he
 ·rename_i k ahg ab;generalize ahg+s/1000=off at he;split at he
  ·rename_i cs dp;split at he
   ·rename_i p bH;split at he
    ·rename_i Aa e E3;split at he
     ·rename_i sE;cases he;obtain⟨bl,us,el,g1,g2,g3,g4,g5⟩:=h.good.box k cs dp;rw[uz sE]at g5;have bA:off<us.toList.length:=by rw[po g5];exact(fw.1 bH).1
      obtain⟨v,aJ⟩:∃v,us.toList[off]? =some v:=⟨_,cf bA⟩;have zs:ba w ν p v:=by have:=Ar off g5;rw[k5 (fw.1 bH).1,k5 bA]at this;simp only[c4]at this;obtain⟨u,cj,ak,aC,_⟩:=this;rw[(fw.1 bH).2]at aC;rw[(fw.1 aJ).2]at ak;cases ak;exact aC.1
      obtain⟨bo,J,U,ao⟩:=U5 h zs E3;have vv:c4 w bo (cs.set off Aa) us.toList:=V5 (V4 ao g5) bH aJ U;have Sv:=Av vv;refine⟨bo,⟨J.good.alt,fun j eG af=>?_,fun j dy b af jd=>J.good.inj j dy b ?_ ?_,J.good.own,J.good.oinj,fun g j n v b a8 af=>J.good.obx g j n v b a8 ?_,J.good.one,fun bl ae=>J.good.otr bl (ae.imp (fun⟨bM,bC,a2⟩=>⟨bM,by rw[iI]at bC;split at bC;(rename_i e;subst e;simp[dp]);exact bC,a2⟩) id)⟩,J.fr,J.defers,J.size,J.slot,J.new⟩
      ·simp only at af;rw[iI]at af;split at af
       ·rename_i e;subst e;cases af;obtain⟨ih,cj,fR,f1,f2,f3,f4,f5⟩:=J.good.box k cs dp;have:ih=bl:=by have:=ao.bx k bl trivial g1;rw[this]at f1;cases f1;rfl
        subst this;rw[uy sE]at g4 f4;rw[g4]at f4;injection f4 with f4;injection f4 with f4 f6 f7;refine⟨ih,us,el,f1,f2,f3,by rw[uy Sv];exact g4,by rw[uz Sv];exact vv⟩
       ·exact J.good.box j eG af
      ·simp only at af;rw[iI]at af;split at af
       ·rename_i e;subst e;simp[dp]
       ·exact af
      ·simp only at jd;rw[iI]at jd;split at jd
       ·rename_i e;subst e;simp[dp]
       ·exact jd
      ·simp only at af;rw[iI]at af;split at af
       ·rename_i e;subst e;simp[dp]
       ·exact af
     ·cases he
    ·cases he
   ·cases he
  ·cases he
 ·cases he
def sg{α:Type}(k:aD)(l:List (aD×α)):List (aD×α):=match l with
 |[]=>[]
 |(i,x)::r=>if i=k then sg k r else(i,x)::sg k r
theorem Ks{α:Type}(k j:aD):∀l:List (aD×α),look j (sg k l)=if j=k then none else look j l
 |[]=>by simp[sg,look]
 |(i,x)::r=>by
  simp only[sg];by_cases h:i=k
  ·subst h;rw[if_pos rfl,Ks i j r];by_cases U:j=i
   ·simp[U]
   ·have:¬i=j:=fun e=>U e.symm;simp[look,U,this]
  ·rw[if_neg h];simp only[look];by_cases U:i=j
   ·subst U;simp[h]
   ·simp only[U,if_false];exact Ks k j r
def IU(agg:Bool):List ah→aY ah
 |[p]=>if agg then some (.agg [p])else some p
 |cs=>if agg then some (.agg cs)else none
def vb(st:bp)(agg:Bool)(s:Nat):aY bp:=
 match get s st.t with
 | .ptr k 0=>match look k st.b with
  |some cs=>if gn cs then match IU agg cs with
    |some x=>some {st with t:=put s (.eptr x) st.t,b:=sg k st.b}
    |none=>none
   else none
  |none=>none
 |_=>none
theorem ajd{u:Value}(h:u.oneCell'=true):u.cells.toList=[u]:=by cases u<;>first|rfl|(simp[Value.oneCell']at h)
theorem TO{w:World}{A:Nat→Nat→Prop}{b:Nat}{us:Array Value}{el:fV}(ae:w.heap[b]? =some (.cells us el))(bh:∀o,o<us.size→A b o):∀(bc:List Value) (off:Nat),us.toList.drop off=bc→lx w A b off bc
 |[],_,_=>trivial
 |v::bc,off,h=>by
  have bA:off<us.toList.length:=by
   rcases Nat.lt_or_ge off us.toList.length with J|J
   ·exact J
   ·rw[List.drop_eq_nil_of_le J]at h;cases h
  have U:=k5 bA;rw[h]at U;injection U with U ao;refine⟨⟨bh off (by simpa using bA),?_⟩,TO ae bh bc (off+1) ao.symm⟩;have vp:off<us.size:=by simpa using bA
  simp only[World.cell?,ae,l0,gT,if_false];rw[U];simp[vp]
theorem acT{C:fc}{st st':bp}{a:Act}{w:World}{ν:bd}(h:cT C st a w ν){agg:Bool}{s:Nat}(he:vb st agg s=some st'):∃bo,cT C st' a w bo:=by
 unfold vb at he;split at he
 ·rename_i k ab;split at he
  ·rename_i cs dp;split at he
   ·rename_i sE;split at he
    ·rename_i x ad;cases he;obtain⟨bl,us,el,g1,g2,g3,g4,g5⟩:=h.good.box k cs dp;rw[uz sE]at g5;rw[uy sE]at g4;have bA:bl<w.heap.size:=by
      rcases Nat.lt_or_ge bl w.heap.size with J|J
      ·exact J
      ·rw[Array.getElem?_eq_none J]at g4;cases g4
     let bo:bd:={ν with A:=fun b o=>ν.A b o∨(b=bl∧o<us.size)}
     have av:la w ν w bo:=⟨fun b o bh=>⟨.inl bh,rfl⟩,fun j b _ af=>af,fun g n u _ iD=>⟨n,u,iD,.inl ⟨rfl,rfl⟩⟩,fun _ _ _=>rfl,fun _ _ _ _ h=>h⟩;have hZ:∀j eG,look j (sg k st.b)=some eG→j≠k∧look j st.b=some eG:=fun j eG af=>by
      rw[Ks]at af;split at af
      ·cases af
      ·rename_i e;exact⟨e,af⟩
     have EW:∀j,(look j (sg k st.b)).isSome→(look j st.b).isSome:=fun j af=>by obtain⟨eG,iC⟩:=fL.1 af;simp[(hZ j eG iC).2]
     have qm:∀(g:aD) (n:Nat) (v:Value),(look g st.e).isSome→ν.ow g=some (n,v)→v.ownBlock=some bl→eR:=fun g n v J U ao=>h.good.obx g k n v bl J (by simp[dp]) U ao g1;have mU:ba w bo (.eptr x) (a.tmps.getD s undef):=by
      have ag:=h.slot s;rw[ab]at ag;simp only[ba]at ag⊢;obtain⟨b2,a6,bB⟩:=ag;rw[g1]at a6;cases a6;have ar:lx w bo.A bl 0 us.toList:=TO g4 (fun o av=>.inr ⟨rfl,av⟩) _ 0 rfl;have g6:c4 w bo cs us.toList:=V4 av g5;unfold IU at ad;split at ad
      ·rename_i p;simp only[c4]at g6;obtain⟨u,cj,ak,aC,bj⟩:=g6;subst bj;split at ad
       ·cases ad;exact⟨bl,0,.agg us,bB,by simp only[ba];exact⟨us,rfl,by rw[ak];simp only[c4];exact⟨u,[],rfl,aC,rfl⟩⟩,by simpa[oH]using ar⟩
       ·cases ad;refine⟨bl,0,u,bB,aC.1,?_⟩;rw[ajd aC.2,←ak];exact ar
      ·split at ad
       ·cases ad;exact⟨bl,0,.agg us,bB,by simp only[ba];exact⟨us,rfl,g6⟩,by simpa[oH]using ar⟩
       ·cases ad
     refine⟨bo,LR (ν:=bo) (st:={st with b:=sg k st.b}) ⟨⟨fun b o bh=>?_,fun j eG af=>?_,fun j dy b J U=>h.good.inj j dy b (EW j J) (EW dy U),fun g o a8=>?_,h.good.oinj,fun g j n v b J U=>h.good.obx g j n v b J (EW j U),h.good.one,fun b aL=>h.good.otr b (aL.imp (fun⟨j,bC,a2⟩=>⟨j,EW j bC,a2⟩) id)⟩,⟨h.fr.os,h.fr.tape,h.fr.output,h.fr.size,h.fr.block,fun b o bh=>⟨.inl (h.fr.keep b o bh).1,(h.fr.keep b o bh).2⟩,fun b o bh=>?_,h.fr.obj,h.fr.obn,h.fr.row,h.fr.obr,h.fr.trd,h.fr.trb,h.fr.trn,h.fr.sh⟩,h.defers,h.size,fun i=>yb av (h.slot i),h.new⟩ mU⟩
     ·rcases bh with bh|⟨rfl,_⟩
      ·exact h.good.alt b o bh
      ·exact bA
     ·obtain⟨cF,jd⟩:=hZ j eG af;obtain⟨ih,cj,fR,f1,f2,f3,f4,f5⟩:=h.good.box j eG jd;refine⟨ih,cj,fR,f1,f2,fun o bh=>?_,f4,pY av f5⟩;rcases bh with bh|⟨rfl,_⟩
      ·exact f3 o bh
      ·exact cF (h.good.inj j k _ (by simp[jd]) (by simp[dp]) f1 g1)
     ·obtain⟨v0,fu,ak,aC,bj,dd⟩:=h.good.own g o a8;have ve:∀b,v0.ownBlock=some b→∀j,bo.A b j→ν.A b j:=fun b ae j bh=>by
       rcases bh with bh|⟨rfl,_⟩
       ·exact bh
       ·exact(qm g _ v0 (by simp[a8]) ak ae).elim
      exact⟨v0,fu,ak,aC,fun b ae=>⟨(bj b ae).1,fun j bh=>(bj b ae).2 j (ve b ae j bh)⟩,rO av ve dd⟩
     ·rcases bh with bh|⟨rfl,_⟩
      ·exact h.fr.fresh b o bh
      ·exact .inr g2
    ·cases he
   ·cases he
  ·cases he
 ·cases he
def rN(st:bp)(x:dr)(b:Bool):bp:=match x with
 | .t i=>{st with t:=put i (.bool b) st.t}
 | .c _=>st
def c0(P:cB)(ob:List aD):C→(Exit→bp→Prop)→bp→Prop
 | .skip,Q,st=>Q .normal st
 | .region gs,Q,st=>hX P gs st (Q .normal)
 | .drawn q N gs,Q,st=>hJ P q [] st.n gs st (tj (st.n+N) st.o (Q .normal))
 | .drawnW nw N gs,Q,st=>(∀j∈nw,.obj j∉st.o)∧hJ P false nw st.n gs st (tj (st.n+N) (nw.map aD.obj++st.o) (Q .normal))
 | .seq a b,Q,st=>c0 P ob a (fun e st'=>match e with| .normal=>c0 P ob b Q st'|e=>Q e st') st
 | .cond x t e,Q,st=>match cm st.t x with
  | .bool b=>(b=true→c0 P ob t Q (rN st x true))∧(b=false→c0 P ob e Q (rN st x false))
  |_=>eR
 | .block id c,Q,st=>c0 P ob c (fun e st'=>match e with| .exit j=>if j=id then Q .normal st' else Q (.exit j) st'|e=>Q e st') st
 | .loop c,Q,st=> ∃(gV:Nat→bp→Prop) (m:Nat) (wi:bp),iz ob st wi∧gV m wi∧
   ∀k s,gV k s→(∀i,ef (get i s.t))→(∀j cs,look j s.b=some cs→gn cs=true→et cs)→c0 P ob c (fun e ai=>match e with| .normal=> ∃bM ox,bM<k∧iz ob ai ox∧gV bM ox|e=>Q e ai) s
 | .exit id,Q,st=>Q (.exit id) st
 | .ret,Q,st=>Q .ret st
 | .pub s c,Q,st=>match vZ st s with
  |some st'=>c0 P ob c Q st'
  |none=>eR
 | .pubB s c,Q,st=>match vY st s with
  |some st'=>c0 P ob c Q st'
  |none=>eR
 | .fg pa s c,Q,st=>c0 P ob c Q {st with t:=put s (yY pa (get s st.t)) st.t}
 | .fz e2 s c,Q,st=>match vb st e2 s with
  |some st'=>c0 P ob c Q st'
  |none=>eR
 | .no,_,_=>eR
def ht(N:Nat)(bz:List (Nat×dA)):C→Code→Bool
 | .skip,.skip=>true
 | .region gs,.region _ ops false=>ka N bz ops.toList gs ops.toList
 | .drawn _ N' gs,.region _ ops true=>N'==N&&ka N bz ops.toList gs ops.toList&&A3 gs ops.toList&&yQ N gs
 | .drawnW _ N' gs,.region _ ops true=>N'==N&&ka N bz ops.toList gs ops.toList&&A3 gs ops.toList&&yQ N gs
 | .seq a b,.seq x y=>ht N bz a x&&ht N bz b y
 | .cond x t e,.cond o dG fE=>ei x o&&ht N bz t dG&&ht N bz e fE
 | .block id c,.block Cg cq=>id==Cg&&ht N bz c cq
 | .loop c,.loop cq=>ht N bz c cq
 | .exit id,.exit Cg=>id==Cg
 | .ret,.ret=>true
 | .pub _ c,cq=>ht N bz c cq
 | .pubB _ c,cq=>ht N bz c cq
 | .fg _ _ c,cq=>ht N bz c cq
 | .fz _ _ c,cq=>ht N bz c cq
 | .no,_=>true
 |_,_=>false
theorem Ry{N:Nat}{bz:List (Nat×dA)}{ops:List Oper}:∀{gs:List c5} {os:List Oper},ka N bz ops gs os=true→gs.length=os.length
 |[],[],_=>rfl
 |[],_::_,h=>by simp[ka]at h
 |_::_,[],h=>by simp[ka]at h
 |g::gs,o::os,h=>by simp only[ka,cA]at h;simp[Ry h.2]
def XO(P:cB)(C:fc)(c:Code)(Q:Exit→bp→Prop)(st:bp):Prop:= ∀a w ν,cT C st a w ν→c.wp P (fun e bn w'=> ∃st' bo,Q e st'∧cT C st' bn w' bo) a w
theorem qZ{P:cB}(hm:P.follows .mixedOrders=true){bz:List (Nat×dA)}(aL:fN P bz=true){X:fc}:∀(c:C) (code:Code) (Q:Exit→bp→Prop) (st:bp),ht X.N bz c code=true→c0 P X.ob c Q st→XO P X code Q st
 | .skip,code,Q,st,av,he=>by
  cases code<;>simp only[ht]at av<;>try cases av
  intro a w ν aK;exact wp_skip ⟨st,ν,he,aK⟩
 | .region gs,code,Q,st,av,he=>by
  cases code<;>try(simp[ht]at av;done)
  rename_i id ops draw;cases draw<;>simp only[ht]at av
  ·intro a w ν aK;refine wp_region ?_;have ar:gs.length=ops.size:=by simpa using Ry av
   rw[List.range_eq_range',←ar];exact QC aL (K:=Q .normal) (fun st' bn w' bo J U=>⟨st',bo,J,U⟩) gs ops.toList 0 (by simp) av st a w ν he aK
  ·cases av
 | .drawn q N gs,code,Q,st,av,he=>by
  cases code<;>try(simp[ht]at av;done)
  rename_i id ops draw;cases draw<;>simp only[ht]at av
  ·cases av
  ·simp only[cA,dL]at av;obtain⟨⟨⟨rfl,J⟩,U⟩,ao⟩:=av;intro a w ν aK;exact QB hm aL J U ao (nw:=[]) (K:=Q .normal) (fun st' bn w' bo J U=>⟨st',bo,J,U⟩) (by simp) he aK
 | .drawnW nw N gs,code,Q,st,av,he=>by
  cases code<;>try(simp[ht]at av;done)
  rename_i id ops draw;cases draw<;>simp only[ht]at av
  ·cases av
  ·simp only[cA,dL]at av;obtain⟨⟨⟨rfl,J⟩,U⟩,ao⟩:=av;intro a w ν aK;exact QB hm aL J U ao (nw:=nw) (K:=Q .normal) (fun st' bn w' bo J U=>⟨st',bo,J,U⟩) he.1 he.2 aK
 | .seq x y,code,Q,st,av,he=>by
  cases code<;>try(simp[ht]at av;done)
  rename_i oW ld;simp only[ht,cA]at av;intro a w ν aK;refine wp_seq ?_;have J:=qZ hm aL x oW _ st av.1 he a w ν aK;refine wp_mono J fun e bn w' cS=>?_;obtain⟨st',bo,br,dC⟩:=cS;cases e with
  |normal=>exact qZ hm aL y ld Q st' av.2 br bn w' bo dC
  |_=>exact⟨st',bo,br,dC⟩
 | .cond x t e,code,Q,st,av,he=>by
  cases code<;>try(simp[ht]at av;done)
  rename_i o Zx ce;simp only[ht,cA]at av;intro a w ν aK;simp only[c0]at he;have ad:=ej aK av.1.1;split at he
  ·rename_i b ae;rw[ae]at ad;simp only[ba]at ad;have B6:cT X (rN st x b) a w ν:=by
    unfold rN;split
    ·exact LQ aK (by simpa[cm]using ae)
    ·exact aK
   refine wp_cond ad ?_;cases b
   ·exact qZ hm aL e ce Q _ av.2 (he.2 rfl) a w ν B6
   ·exact qZ hm aL t Zx Q _ av.1.2 (he.1 rfl) a w ν B6
  ·exact he.elim
 | .block id c,code,Q,st,av,he=>by
  cases code<;>try(simp[ht]at av;done)
  rename_i Cg cq;simp only[ht,cA,dL]at av;obtain⟨rfl,av⟩:=av;intro a w ν aK;refine wp_block ?_;refine wp_mono (qZ hm aL c cq _ st av he a w ν aK) fun e bn w' cS=>?_;obtain⟨st',bo,br,dC⟩:=cS;cases e with
  |exit j=>
   simp only[Exit.inBlock]at br⊢;by_cases af:j=id
   ·rw[if_pos af]at br⊢;exact⟨st',bo,br,dC⟩
   ·rw[if_neg af]at br⊢;exact⟨st',bo,br,dC⟩
  |_=>exact⟨st',bo,br,dC⟩
 | .loop c,code,Q,st,av,he=>by
  cases code<;>try(simp[ht]at av;done)
  rename_i cq;simp only[ht]at av;intro a w ν aK;simp only[c0]at he;obtain⟨gV,m,wi,hw,hi,jt⟩:=he;refine wp_loop_ghost (fun k a w=> ∃s ν,gV k s∧cT X s a w ν) m ⟨wi,_,hi,aK.weaker hw⟩ ?_;intro k a w adU;obtain⟨s,ν,ag,B7⟩:=adU;have J:=jt k s ag (fun i=>Wa (B7.slot i)) (fun j cs af=>by obtain⟨bl,us,el,_,_,_,_,g5⟩:=B7.good.box j cs af;exact VY g5);refine wp_mono (qZ hm aL c cq _ s av J a w ν B7) fun e bn w' cS=>?_;obtain⟨st',bo,br,dC⟩:=cS;cases e with
  |normal=>obtain⟨bM,ox,ak,aC,bj⟩:=br;exact⟨bM,ak,ox,_,bj,dC.weaker aC⟩
  |_=>exact⟨st',bo,br,dC⟩
 | .exit id,code,Q,st,av,he=>by
  cases code<;>try(simp[ht]at av;done)
  rename_i Cg;simp only[ht,dL]at av;subst av;intro a w ν aK;exact wp_exit ⟨st,ν,he,aK⟩
 | .ret,code,Q,st,av,he=>by
  cases code<;>try(simp[ht]at av;done)
  intro a w ν aK;exact wp_ret ⟨st,ν,he,aK⟩
 | .pub s c,code,Q,st,av,he=>by
  simp only[ht]at av;simp only[c0]at he;split at he
  ·rename_i st' ag;intro a w ν aK;obtain⟨bo,J⟩:=ajq aK ag;exact qZ hm aL c code Q st' av he a w bo J
  ·exact he.elim
 | .pubB s c,code,Q,st,av,he=>by
  simp only[ht]at av;simp only[c0]at he;split at he
  ·rename_i st' ag;intro a w ν aK;obtain⟨bo,J⟩:=ajp aK ag;exact qZ hm aL c code Q st' av he a w bo J
  ·exact he.elim
 | .fg pa s c,code,Q,st,av,he=>by simp only[ht]at av;simp only[c0]at he;intro a w ν aK;exact qZ hm aL c code Q _ av he a w ν (LR aK (acE (aK.slot s)))
 | .fz e2 s c,code,Q,st,av,he=>by
  simp only[ht]at av;simp only[c0]at he;intro a w ν aK;split at he
  ·rename_i st' cO;obtain⟨bo,J⟩:=acT aK cO;exact qZ hm aL c code Q st' av he a w bo J
  ·exact he.elim
 | .no,code,Q,st,av,he=>by simp only[c0]at he
inductive bt where
 |tmp (i:Nat)
 |cell (i:Nat) (agg:Bool) (sz:Nat)
def aW(st:bp):bt→aY (Prop×ah)
 | .tmp i=>some (True,get i st.t)
 | .cell i agg sz=>mo st.b st.e agg sz (get i st.t)
def aV(st:bp):List bt→aY (Prop×List ah)
 |[]=>some (True,[])
 |r::fh=>match aW st r,aV st fh with
  |some (c,p),some (cq,cu)=>some (c∧cq,p::cu)
  |_,_=>none
def qD(bz:List (Nat×dA)):List bt→List ResultVar→Bool
 |[],[]=>true
 | .tmp i::fh,.tmp j::os=>i==j&&qD bz fh os
 | .cell i agg sz::fh,.cell j t::os=>i==j&&(match dZ bz t with|some f=>f.size==sz&&f.kind.isAgg==agg|none=>false)&&qD bz fh os
 |_,_=>false
def aU:List ah→ah
 |[p]=>p
 |cu=>.tuple cu
def GH(tmps:Array Value):ResultVar→Sem Value
 | .tmp t=>pure (tmps.getD t undef)
 | .cell x t=>do loadVar t (←asAddr (tmps.getD x undef))
theorem akE(fn:Func)(tmps:Array Value):results fn tmps=(do let bc←fn.results.mapM (GH tmps);pure (if h:bc.size=1 then bc[0]else .tuple bc)):=by unfold results;congr 2
theorem LZ{P:cB}{bz:List (Nat×dA)}(aL:fN P bz=true){X:fc}{st:bp}{a:Act}{w:World}{ν:bd}(aK:cT X st a w ν):
  ∀(fh:List bt) (os:List ResultVar) (c:Prop) (cu:List ah),qD bz fh os=true→aV st fh=some (c,cu)→c→
  ∃bc,(os.mapM (GH a.tmps)).run P w= .ok bc w∧cP w ν cu bc
 |[],[],c,cu,_,he,_=>by simp only[aV]at he;cases he;exact⟨[],by simp,by simp[cP]⟩
 |[],_::_,_,_,av,_,_=>by simp[qD]at av
 | .tmp _::_,[],_,_,av,_,_=>by simp[qD]at av
 | .cell _ _ _::_,[],_,_,av,_,_=>by simp[qD]at av
 |r::fh,o::os,c,cu,av,he,aw=>by
  simp only[aV]at he;split at he
  ·rename_i bG p ch U4 J U;cases he;cases r with
   |tmp i=>
    cases o with
    |cell _ _=>simp[qD]at av
    |tmp j=>simp only[qD,cA,dL]at av;obtain⟨rfl,av⟩:=av;simp only[aW]at J;cases J;obtain⟨bc,g1,g2⟩:=LZ aL aK fh os ch U4 av U aw.2;refine⟨a.tmps.getD i undef::bc,?_,by simp only[cP];exact⟨_,_,rfl,aK.slot i,g2⟩⟩;simp only[List.mapM_cons,fF,GH,gq,fJ,g1]
   |cell i agg sz=>
    cases o with
    |tmp _=>simp[qD]at av
    |cell j t=>
     simp only[qD,cA,dL]at av;obtain⟨⟨rfl,ao⟩,av⟩:=av;split at ao
     ·rename_i f aH;simp only[cA,dL]at ao;obtain⟨rfl,rfl⟩:=ao;simp only[aW]at J;obtain⟨bc,g1,g2⟩:=LZ aL aK fh os ch U4 av U aw.2;obtain⟨v,f1,f2⟩:=FE aL aK.good aH (aK.slot i) J aw.1;have B3:∃sa,a.tmps.getD i undef= .pointer (some sa):=by
       have ag:=aK.slot i;unfold mo at J;split at J
       ·rename_i dD k n vC q0 ab;rw[ab]at ag;simp only[ba]at ag;obtain⟨⟨b,o,e⟩,_⟩:=ag;exact⟨_,e⟩
       ·rename_i k off ab;rw[ab]at ag;simp only[ba]at ag;obtain⟨b,_,e⟩:=ag;exact⟨_,e⟩
       ·rename_i q ab;rw[ab]at ag;simp only[ba]at ag;obtain⟨b,off,u,e,_⟩:=ag;exact⟨_,e⟩
       ·cases J
      obtain⟨sa,BD⟩:=B3;rw[BD]at f1;simp only[Instr.loadAt,Instr.sureAddr,fF,gq,fJ]at f1;refine⟨v::bc,?_,by simp only[cP];exact⟨_,_,rfl,f2,g2⟩⟩;have ad1:(asAddr (.pointer (some sa)):Sem Addr).run P w= .ok sa w:=rfl;simp only[List.mapM_cons,fF,GH,gq,fJ,g1,BD,ad1,f1]
     ·cases ao
  ·cases he
theorem C5{w:World}{ν:bd}:∀{cu:List ah} {bc:List Value},cP w ν cu bc→bc.length=cu.length
 |[],bc,h=>by simp only[cP]at h;subst h;rfl
 |p::cu,bc,h=>by simp only[cP]at h;obtain⟨u,cj,rfl,_,U⟩:=h;simp[C5 U]
def j2:Nat→List ah→List (Nat×ah)
 |_,[]=>[]
 |i,p::cu=>(i,p)::j2 (i+1) cu
theorem I3:∀(cu:List ah) (i j:Nat),get j (j2 i cu)=if i≤j∧j<i+cu.length then cu.getD (j-i) .junk else .junk
 |[],i,j=>by simp[j2,get]
 |p::cu,i,j=>by
  simp only[j2,get];by_cases h:i=j
  ·subst h;simp
  ·rw[if_neg h,I3 cu (i+1) j];by_cases U:i≤j∧j<i+(p::cu).length
   ·rw[if_pos U,if_pos (by simp at U⊢;omega)];have:j-i=(j-(i+1))+1:=by omega
    rw[this];simp
   ·rw[if_neg U,if_neg (by simp at U⊢;omega)]
def lU{α:Type}(ai:cE):List (aD×α)→Prop
 |[]=>True
 |(k,_)::r=>inObs ai k∧lU ai r
theorem zG{α:Type}{ai:cE}:∀{l:List (aD×α)},lU ai l→∀k,(look k l).isSome→inObs ai k
 |[],_,k,h=>by simp[look]at h
 |(i,x)::r,ab,k,h=>by
  simp only[lU]at ab;simp only[look]at h;split at h
  ·rename_i e;subst e;exact ab.1
  ·exact zG ab.2 k h
def cH(fh:List bt)(s:cE)(Q:ah→cE→Prop)(e:Exit)(st:bp):Prop:=
 (e= .ret∨e= .normal)∧match aV st fh with
  |some (c,cu)=>c∧∃ai,lU ai s.b∧lU ai s.e∧gE (inObs ai) ai.b st.b∧oA (inObs ai) ai.e st.e∧iJ ai∧aB (inObs ai) (dm (aU cu))∧Q (dm (aU cu)) ai
  |none=>eR
theorem bF.of{P:cB}(hm:P.follows .mixedOrders=true){bz:List (Nat×dA)}(aL:fN P bz=true){f:FuncId}{fn:Func}(aH:P.funcs[f]? =some fn){code:Code}(ae:fn.body=some code)(BY:(fn.name== "runtime.NumGoroutine")=false){c:C}(aw:ht fn.ntmps bz c code=true){fh:List bt}(B7:qD bz fh fn.results.toList=true)
  {args:List ah} (ar:args.length≤fn.ntmps) {s:cE} (o9:iJ s) {Q:ah→cE→Prop} (he:eD args→(∀j cs,look j s.b=some cs→gn cs=true→et cs)→c0 P (cW s) c (cH fh s Q) ⟨j2 0 args,s.b,s.e,0,cW s⟩):bF P f args s Q:=by
 intro w ν bc a8 ad aK;refine .inl ⟨⟨fn,aH,by simp[ae],BY⟩,?_⟩;have pM:=C5 aK;have kE:bc.size=args.length:=by simpa using pM
 let X:fc:=⟨w,ν,fx ν s,fn.ntmps,cW s⟩
 have od:∀k,fresh 0 (cW s) k→ν.bx k=none∧ν.ow k=none∧∀j b,¬ν.tr k j b:=by
  intro k ab;cases k with
  |loc m=>exact⟨(ad _).1 (o9.1 m),(ad _).2.1 (o9.2 m),(ad _).2.2⟩
  |obj m=>
   simp only[fresh,true_and]at ab;refine⟨?_,?_,(ad _).2.2⟩
   ·refine(ad _).1 ?_;cases h:look (.obj m) s.b with
    |none=>rfl
    |some x=>exact absurd (sS (.inl (by simp[h]))) ab
   ·refine(ad _).2.1 ?_;cases h:look (.obj m) s.e with
    |none=>rfl
    |some x=>exact absurd (sS (.inr (by simp[h]))) ab
 have jc:∀m,(ν.bx (.obj m)≠none∨ν.ow (.obj m)≠none)→ .obj m∈cW s:=by
  intro m hm;refine Classical.byContradiction fun aw=>?_;obtain⟨J,U,_⟩:=od (.obj m) ⟨trivial,aw⟩;rcases hm with hm|hm
  ·exact hm J
  ·exact hm U
 have pJ:cT X ⟨j2 0 args,s.b,s.e,0,cW s⟩ {tmps:=bc++Array.replicate (fn.ntmps-bc.size) undef,defers:=[]} w ν:=by
  refine⟨⟨a8.alt,fun k cs ab=>?_,a8.inj,fun g o eT=>?_,a8.oinj,a8.obx,a8.one,a8.otr⟩,⟨rfl,rfl,rfl,eV _,fun _ _ _=>rfl,fun b o h=>⟨h,rfl⟩,fun b o h=>.inl h,fun n b h=>h,fun n b h=>jc n (.inl (by rw[h];simp)),fun m n u h=>⟨n,u,h,.inl ⟨rfl,rfl⟩⟩,fun m n u h=>jc m (.inr (by rw[h];simp)),fun k j _ _ b h=>absurd h ((ad k).2.2 j b),fun k j b h=>absurd h ((ad k).2.2 j b),fun k j b h=>absurd h ((ad k).2.2 j b),fun _ _ _=>rfl⟩,rfl,?_,fun i=>?_,od⟩
  ·obtain⟨bl,us,el,g1,g2,g3⟩:=a8.box k cs ab;exact⟨bl,us,el,g1,.inl g2,g3⟩
  ·obtain⟨v,us,g1,g2,g3,g4⟩:=a8.own g o eT;exact⟨v,us,g1,g2,fun bl fA=>⟨.inl (g3 bl fA).1,(g3 bl fA).2⟩,g4⟩
  ·show(bc++Array.replicate (fn.ntmps-bc.size) undef).size=fn.ntmps;simp;omega
  ·rw[I3];by_cases hi:i<args.length
   ·rw[if_pos (by omega)];have tU:args[i]? =some args[i]:=cf hi;obtain⟨v,ak,aC⟩:=Gz i aK tU;have aJ:(bc++Array.replicate (fn.ntmps-bc.size) undef).getD i undef=v:=by
     have Ik:bc[i]? =some v:=by simpa using ak
     rw[Array.getD_eq_getD_getElem?,Array.getElem?_append_left (by omega),Ik];rfl
    show ba w ν _ ((bc++Array.replicate (fn.ntmps-bc.size) undef).getD i undef);rw[aJ];simpa[List.getD,tU]using aC
   ·rw[if_neg (by omega)];simp[ba]
 have tQ:=he (V8 aK) (fun j cs af=>by obtain⟨bl,us,el,_,_,_,_,g5⟩:=a8.box j cs af;exact VY g5);have aft:=qZ hm aL (X:=X) c code (cH fh s Q) _ aw tQ _ w ν pJ;refine calls_of_wp aH ae (wp_mono aft fun e bn w' cS=>?_);obtain⟨st',bo,⟨tP,br⟩,dC⟩:=cS;cases xw:aV st' fh with
 |none=>simp[xw]at br
 |some x=>
  obtain⟨cq,cu⟩:=x;simp only[xw]at br;obtain⟨hv,ai,kb,ke,a6,bB,bS,c1,c9⟩:=br;obtain⟨wg,g1,g2⟩:=LZ aL dC fh fn.results.toList cq cu B7 xw hv;have ae8:=C5 g2;have dB:bn.defers=[]∧∃v,(results fn bn.tmps).run P w'= .ok v w'∧(fun(e:Ending) w'=> ∃v r ai bo,e= .returned v∧Q r ai∧ba w' bo r v∧Good (fun bl=>fx ν s bl∨w.heap.size≤bl) w' bo ai.b ai.e∧o2 bo ai∧iJ ai∧p8 ⟨w,ν,fx ν s,0,cW s⟩ w' bo) (.returned v) w':=by
   refine⟨dC.defers,?_⟩;have iF:(results fn bn.tmps).run P w'= .ok (if h:wg.toArray.size=1 then wg.toArray[0]else .tuple wg.toArray) w':=by rw[akE];simp only[fF,Array.mapM_eq_mapM_toList,Sem.run_map,g1,fJ,gq]
   refine⟨_,iF,_,dm (aU cu),ai,bo.cut (inObs ai),rfl,c9,?_,dC.good.cut a6 bB (fun bl h _=>h),?_,bS,?_⟩
   ·have mf:ba w' bo (aU cu) (if h:wg.toArray.size=1 then wg.toArray[0]else .tuple wg.toArray):=by
     match cu,wg,g2,ae8 with
     |[p],[v],g2,_=>simp only[cP]at g2;obtain⟨u,cj,ak,aC,_⟩:=g2;cases ak;simpa[aU]using aC
     |[],[],g2,_=>simp[aU,ba,cP]
     |p::ds::cu,v::v2::wg,g2,_=>rw[dif_neg (by simp)];simp only[aU,ba];exact⟨_,rfl,by simpa using g2⟩
     |[_],[],_,h=>simp at h
     |[],_::_,_,h=>simp at h
     |[_],_::_::_,_,h=>simp at h
     |_::_::_,[],_,h=>simp at h
     |_::_::_,[_],_,h=>simp at h
    exact uG (oP.cut _ w' bo) _ _ c1 (yc _ _ mf)
   ·intro k;refine⟨?_,?_,?_⟩;rotate_left 2
    ·rintro j b ⟨ag,ae⟩;obtain⟨t1,t2⟩:=dC.fr.trn k j b ae;rcases ag with ag|ag<;>obtain⟨x,h7⟩:=fL.1 ag
     ·obtain⟨bl,cj,el,ak,_⟩:=dC.good.box k x (a6 k x h7).1;rw[t1]at ak;cases ak
     ·obtain⟨v',cj,ak,_⟩:=dC.good.own k x (bB k x h7).1;rw[t2]at ak;cases ak
    ·intro ab;by_cases ag:inObs ai k
     ·rw[bd.cut_bx ag];rcases ag with ag|ag
      ·rw[ab]at ag;cases ag
      ·obtain⟨x,h7⟩:=fL.1 ag;obtain⟨v',cj,ak,_⟩:=dC.good.own k x (bB k x h7).1;rcases dC.good.one k with J|J
       ·exact J
       ·rw[J]at ak;cases ak
     ·exact(bd.cut_no ag).1
    ·intro ab;by_cases ag:inObs ai k
     ·rw[bd.cut_ow ag];rcases ag with ag|ag
      ·obtain⟨x,h7⟩:=fL.1 ag;obtain⟨bl,cj,el,ak,_⟩:=dC.good.box k x (a6 k x h7).1;rcases dC.good.one k with J|J
       ·rw[J]at ak;cases ak
       ·exact J
      ·rw[ab]at ag;cases ag
     ·exact(bd.cut_no ag).2.1
   ·refine⟨dC.fr.os,dC.fr.tape,dC.fr.output,dC.fr.size,dC.fr.block,dC.fr.keep,dC.fr.fresh,fun n b h=>?_,fun n b h=>jc n (.inl (by rw[h];simp)),fun m n u h=>?_,fun m n u h=>jc m (.inr (by rw[h];simp)),fun k j bM dy b J U=>dC.fr.trd k j bM dy b J.2 U.2,fun k j b ae=>dC.fr.trb k j b ae.2,fun k j b ae=>(by rw[bd.cut_bx ae.1,bd.cut_ow ae.1];exact dC.fr.trn k j b ae.2),dC.fr.sh⟩
    ·have ag:inObs ai (.obj n):=by
      cases ar:look (.obj n) s.b with
      |none=>rw[(ad _).1 ar]at h;cases h
      |some x=>exact zG kb _ (by simp[ar])
     rw[bd.cut_bx ag];exact dC.fr.obj n b h
    ·have ag:inObs ai (.obj m):=by
      cases ar:look (.obj m) s.e with
      |none=>rw[(ad _).2.1 ar]at h;cases h
      |some x=>exact zG ke _ (by simp[ar])
     rw[bd.cut_ow ag];exact dC.fr.row m n u h
  rcases tP with rfl|rfl<;>exact dB
def bY(bz:List (Nat×dA))(c:C)(fh:List bt)(ahb:Nat)(fn:Func):Bool:=
 match fn.body with
 |some code=>ht fn.ntmps bz c code&&qD bz fh fn.results.toList&& !(fn.name== "runtime.NumGoroutine")&&decide (ahb≤fn.ntmps)
 |none=>false
theorem bF.mk{P:cB}(hm:P.follows .mixedOrders=true){bz:List (Nat×dA)}(aL:fN P bz=true){f:FuncId}{fn:Func}(aH:P.funcs[f]? =some fn){c:C}{fh:List bt}{n:Nat}(eX:bY bz c fh n fn=true)
  {args:List ah} (ar:args.length≤n) {s:cE} (o9:iJ s) {Q:ah→cE→Prop} (he:eD args→(∀j cs,look j s.b=some cs→gn cs=true→et cs)→c0 P (cW s) c (cH fh s Q) ⟨j2 0 args,s.b,s.e,0,cW s⟩):bF P f args s Q:=by
 unfold bY at eX;split at eX
 ·rename_i code ae;simp only[cA,Bool.not_eq_true',fm]at eX;obtain⟨⟨⟨J,U⟩,ao⟩,a7⟩:=eX;exact bF.of hm aL aH ae ao J U (j4 ar a7) o9 he
 ·cases eX
theorem xU:iJ ⟨[],[]⟩:=⟨fun _=>rfl,fun _=>rfl⟩
def bu(fh:List bt)(r:ah)(e:Exit)(st:bp):Prop:=
 (e= .ret∨e= .normal)∧match aV st fh with
  |some (c,cu)=>c∧dm (aU cu)=r
  |none=>eR
theorem bK.mk{P:cB}(hm:P.follows .mixedOrders=true){bz:List (Nat×dA)}(aL:fN P bz=true){f:FuncId}{fn:Func}(aH:P.funcs[f]? =some fn){c:C}{fh:List bt}{n:Nat}(eX:bY bz c fh n fn=true)
  {args:List ah} (ar:args.length≤n) {r:ah} (aK:aB (fun _=>eR) r) (he:eD args→c0 P [] c (bu fh r) ⟨j2 0 args,[],[],0,[]⟩):bK P f args r:=by
 refine bF.mk hm aL aH eX ar xU fun J _=>?_;have:=he J;have hF:bu fh r=cH fh ⟨[],[]⟩ (fun eF ai=>eF=r∧ai=⟨[],[]⟩):=by
  funext e st;unfold bu cH;apply propext;refine and_congr_right fun _=>?_;cases aV st fh with
  |none=>exact Iff.rfl
  |some x=>
   obtain⟨c,cu⟩:=x;refine and_congr_right fun _=>?_;constructor
   ·intro h;refine⟨⟨[],[]⟩,trivial,trivial,fun k cs ab=>by simp[look]at ab,fun k cs ab=>by simp[look]at ab,xU,?_,h,rfl⟩;rw[h];exact vJ (fun k ab=>ab.elim) r aK
   ·rintro⟨ai,_,_,_,_,_,_,h,_⟩;exact h
 rw[hF]at this;exact this
theorem MZ{α:Type}{β:Type}:∀l:List (aD×α),cn ([]:List (aD×β)) l=l
 |[]=>rfl
 |(k,x)::r=>by simp[cn,look,MZ r]
theorem cV.val{P:cB}{n:Nat}{args:List ah}{st:bp}{d:aY Nat}{K:bp→Prop}{r:ah}(ab:aG (fun _=>eR) args)(aH:bK P n args r)(h:K {st with t:=eM d r st.t}):cV P n args st d K:=by
 refine .inl ⟨⟨[],[]⟩,_,fun k cs ab=>by simp[look]at ab,fun k cs ab=>by simp[look]at ab,xU,jH (fun _ h=>h.elim) _ ab,aH,?_⟩;rintro eF ai ⟨rfl,rfl⟩;refine⟨⟨fun m h=>by simp[look]at h,fun m h=>by simp[look]at h⟩,?_⟩;have:after st ⟨[],[]⟩ ⟨[],[]⟩ d eF={st with t:=eM d eF st.t}:=by simp[after,MZ,cW]
 rw[this];exact h
@[reducible,simp] def gp(n:Int):dr:= .c (.int .i64 n)
@[reducible,simp] def I(a b:Nat):c5:=⟨none,.s (.v a (.mov (.t b)))⟩
@[reducible,simp] def b1(a:Nat)(i:fP):c5:=⟨none,.s (.v a i)⟩
@[reducible,simp] def cK(i:ek):c5:=⟨none,.s i⟩
@[reducible,simp] def dI(a f:Nat)(l:List dr):c5:=⟨none,.call (some a) (.c (.func f [])) l⟩
@[reducible,simp] def b4(j:Nat)(w:Bool)(a b:Nat):c5:=⟨some (j,w),.s (.v a (.mov (.t b)))⟩
@[reducible,simp] def wC(j:Nat)(w:Bool)(a:Nat)(i:fP):c5:=⟨some (j,w),.s (.v a i)⟩
@[reducible,simp] def ys(j:Nat)(w:Bool)(i:ek):c5:=⟨some (j,w),.s i⟩
@[reducible,simp] def cp(d s a b:Nat):c5:=b1 d (.iaddr s (.t a) (.t b))
@[reducible,simp] def ax(d s a:Nat):c5:=b1 d (.load false s (.t a))
@[reducible,simp] def be(d s a:Nat):c5:=b1 d (.load true s (.t a))
@[reducible,simp] def aI(d o s a:Nat):c5:=b1 d (.faddr o false s (.t a))
@[reducible,simp] def fY(d o s a:Nat):c5:=b1 d (.faddr o true s (.t a))
@[reducible,simp] def bk(d:Nat)(o:BinOp)(a b:Nat):c5:=b1 d (.bin o false (.t a) (.t b))
@[reducible,simp] def aS(d:Nat)(o:BinOp)(a:Nat)(n:Int):c5:=b1 d (.bin o false (.t a) (gp n))
@[reducible,simp] def cb(d a:Nat):c5:=b1 d (.len (.t a))
@[reducible,simp] def cx(d a:Nat):c5:=b1 d (.notB (.t a))
@[reducible,simp] def c2(d i a:Nat):c5:=b1 d (.ext i (.t a))
@[reducible,simp] def dc(d a b:Nat):c5:=b1 d (.pick (.t a) (.c (.bool true)) (.t b))
@[reducible,simp] def dK(d a b:Nat):c5:=b1 d (.pick (.t a) (.t b) (.c (.bool false)))
@[reducible,simp] def bf(d:Nat)(b:Bool):c5:=b1 d (.mov (.c (.bool b)))
@[reducible,simp] def bQ(d:Nat)(n:Int):c5:=b1 d (.mov (gp n))
@[reducible,simp] def bW(s a b:Nat):c5:=cK (.store s (.t a) (.t b))
@[reducible,simp] def aq(j:Nat)(w:Bool)(x:c5):c5:=⟨some (j,w),x.i⟩
@[reducible,simp] def aa(l:List c5)(c:C):C:= .seq (.region l) c
@[reducible,simp] def aT(n:Nat)(a b:C):C:= .cond (.t n) a b
@[reducible,simp] def gF(d a:Nat)(l:List dr):c5:=⟨none,.call (some d) (.t a) l⟩
@[reducible,simp] def cQ(d f a:Nat):c5:=dI d f [.t a]
@[reducible,simp] def cd(d f a b:Nat):c5:=dI d f [.t a,.t b]
@[reducible,simp] def dS:List ah:=[.int .i64 0,.int .i64 0,.str [],.slice 4 .nil []]
@[reducible,simp] def jZ:List ah:=[.int .i64 0,.int .i64 0,.int .i64 0,.str [],.slice 4 .nil []]
@[reducible,simp] def pd:List ah:=[.int .i64 0,.slice 5 .nil [],.slice 1 .nil [],.slice 2 .nil [],.slice 2 .nil []]
@[reducible,simp] def cM(a b:Nat):c5:=cK (.box a none (.t b))
@[reducible,simp] def dH(a:Nat)(l:List ah):c5:=cK (.alloc a none (.agg l))
@[reducible,simp] def ez(a n:Nat):c5:=b1 a (.mov (.c (.slice n .nil [])))
@[reducible,simp] def iN(a b c d e:Nat):c5:=cK (.app a b c (.t d) (.t e))
@[reducible,simp] def fk(a b c:Nat)(l:List dr):c5:=cK (.bsl a b c l)
@[reducible,simp] def fv(a b:Nat):c5:=b1 a (.nck (.t b))
@[reducible,simp] def jC(d s a:Nat)(n:Int):c5:=b1 d (.iaddr s (.t a) (gp n))
@[reducible,simp] def k3(d:Nat)(l:List ah)(m:List (Nat×Nat×dr)):c5:=b1 d (.build l m)
@[reducible,simp] def e4(a b c:Nat)(x:C):C:= .block 0 (.loop (aa [bk a .lss b c] (.seq (aT a .skip (.exit 0)) x)))
end Go.Pv
namespace Go.Pv
open Go Go.RowKit
theorem dV{α:Type}{l:List α}{i:Nat}(h:i<l.length):∃b,l[i]? =some b∧∀h,(l[i]'h)=b:=⟨l[i],cf h,fun _=>rfl⟩
def L5(st:bp)(i:ek):Prop:=match lW st i with|some (c,_)=>c|none=>eR
def L6(st:bp)(i:ek):bp:=match lW st i with|some (_,s)=>s|none=>st
def DG(P:cB)(r:List c5)(K:bp→Prop)(st:bp):Prop:=hX P r st K
def yz(P:cB)(ob:List aD)(c:C)(Q:Exit→bp→Prop)(st:bp):Prop:=c0 P ob c Q st
def pE(P:cB)(v:ah)(s:Nat)(w:Bool)(i:ee)(r:List c5)(st:bp)(K:bp→Prop):Prop:=
 match v with
 | .bool b=>(b=w→hX P (⟨none,i⟩::r) {st with t:=put s (.bool w) st.t} K)∧(b= !w→hX P r {st with t:=eM i.dst (.tuple []) (put s (.bool !w) st.t)} K)
 | .tuple []=>hX P r {st with t:=eM i.dst (.tuple []) st.t} K
 |_=>eR
def tG(P:cB)(ob:List aD)(v:ah)(x:dr)(t e:C)(Q:Exit→bp→Prop)(st:bp):Prop:=
 match v with
 | .bool b=>(b=true→c0 P ob t Q (rN st x true))∧(b=false→c0 P ob e Q (rN st x false))
 |_=>eR
def Iu(P:cB)(v:ah)(d:aY Nat)(xs:List ah)(r:List c5)(st:bp)(K:bp→Prop):Prop:=
 match v with
 | .func n da=>cV P n (cY (xs++da)) st d (DG P r K)
 |_=>eR
section
variable {P:cB} {ob:List aD} {st:bp} {K:bp→Prop} {r:List c5} {Q:Exit→bp→Prop} {a b c t e:C}
theorem aas:hX P [] st K=K st:=rfl
theorem aat{i:ek}:hX P (⟨none,.s i⟩::r) st K=(L5 st i∧hX P r (L6 st i) K):=by
 simp only[hX,tE,L5,L6];cases lW st i with
 |none=>simp
 |some x=>rfl
theorem aap{d:aY Nat}{f:dr}{xs:List dr}:hX P (⟨none,.call d f xs⟩::r) st K=Iu P (cm st.t f) d (xs.map (cm st.t)) r st K:=by simp only[hX,tE,Iu];rfl
theorem aar{d:Nat}{x:dr}:hX P (⟨none,.next d x⟩::r) st K=sk st d (cm st.t x) (DG P r K):=by simp only[hX,tE];rfl
def wH(P:cB)(ob:List aD)(c:C)(Q:Exit→bp→Prop):aY bp→Prop
 |some st=>c0 P ob c Q st
 |none=>eR
theorem XY:wH P ob c Q (some st)=c0 P ob c Q st:=rfl
theorem Z4{s:Nat}:c0 P ob (.pub s c) Q st=wH P ob c Q (vZ st s):=by simp only[c0];cases vZ st s<;>rfl
theorem Z0{pa:Bool}{s:Nat}:c0 P ob (.fg pa s c) Q st=c0 P ob c Q {st with t:=put s (yY pa (get s st.t)) st.t}:=rfl
theorem Z1{pa:Bool}{s:Nat}{d:C}:c0 P ob (.seq (.fg pa s c) d) Q st=c0 P ob (.seq c d) Q {st with t:=put s (yY pa (get s st.t)) st.t}:=rfl
theorem Z2{e2:Bool}{s:Nat}:c0 P ob (.fz e2 s c) Q st=wH P ob c Q (vb st e2 s):=by simp only[c0];cases vb st e2 s<;>rfl
theorem Z3{e2:Bool}{s:Nat}{d:C}:c0 P ob (.seq (.fz e2 s c) d) Q st=wH P ob (.seq c d) Q (vb st e2 s):=by simp only[c0];cases vb st e2 s<;>rfl
theorem Z5{s:Nat}:c0 P ob (.pubB s c) Q st=wH P ob c Q (vY st s):=by simp only[c0];cases vY st s<;>rfl
theorem aao{n:Nat}{da:List ah}{d:aY Nat}{xs:List ah}:Iu P (.func n da) d xs r st K=cV P n (cY (xs++da)) st d (DG P r K):=rfl
theorem aaq{s:Nat}{w:Bool}{i:ee}:hX P (⟨some (s,w),i⟩::r) st K=pE P (get s st.t) s w i r st K:=by simp only[hX,pE];try rfl
theorem aay{s:Nat}{i:ee}:pE P (.bool true) s true i r st K=hX P (⟨none,i⟩::r) {st with t:=put s (.bool true) st.t} K:=by simp[pE]
theorem aau{s:Nat}{i:ee}:pE P (.bool false) s false i r st K=hX P (⟨none,i⟩::r) {st with t:=put s (.bool false) st.t} K:=by simp[pE]
theorem aax{s:Nat}{i:ee}:pE P (.bool true) s false i r st K=hX P r {st with t:=eM i.dst (.tuple []) (put s (.bool true) st.t)} K:=by simp[pE]
theorem aav{s:Nat}{i:ee}:pE P (.bool false) s true i r st K=hX P r {st with t:=eM i.dst (.tuple []) (put s (.bool false) st.t)} K:=by simp[pE]
theorem aaw{s:Nat}{w:Bool}{i:ee}:pE P (.tuple []) s w i r st K=hX P r {st with t:=eM i.dst (.tuple []) st.t} K:=by simp[pE]
theorem bU{x:Bool}{s:Nat}{w:Bool}{i:ee}(J:x=w→hX P (⟨none,i⟩::r) {st with t:=put s (.bool w) st.t} K)(U:x= !w→hX P r {st with t:=eM i.dst (.tuple []) (put s (.bool !w) st.t)} K):pE P (.bool x) s w i r st K:=⟨J,U⟩
theorem ZP:c0 P ob (.seq (.seq a b) c) Q st=c0 P ob (.seq a (.seq b c)) Q st:=by simp only[c0];congr 1;funext e st';cases e<;>rfl
theorem aaa:c0 P ob (.seq .skip c) Q st=c0 P ob c Q st:=rfl
theorem Z8:c0 P ob (.seq .ret c) Q st=Q .ret st:=rfl
theorem ZY{n:Nat}:c0 P ob (.seq (.exit n) c) Q st=Q (.exit n) st:=rfl
theorem aab:c0 P ob .skip Q st=Q .normal st:=rfl
theorem Z9:c0 P ob .ret Q st=Q .ret st:=rfl
theorem ZZ{n:Nat}:c0 P ob (.exit n) Q st=Q (.exit n) st:=rfl
theorem Z6{gs:List c5}:c0 P ob (.seq (.region gs) c) Q st=hX P gs st (yz P ob c Q):=rfl
theorem Z7{gs:List c5}:c0 P ob (.region gs) Q st=hX P gs st (Q .normal):=rfl
theorem ZS{x:dr}:c0 P ob (.seq (.cond x t e) c) Q st=tG P ob (cm st.t x) x (.seq t c) (.seq e c) Q st:=by simp only[c0,tG];try rfl
theorem ZT{x:dr}:c0 P ob (.cond x t e) Q st=tG P ob (cm st.t x) x t e Q st:=by simp only[c0,tG];try rfl
theorem aad{x:dr}:tG P ob (.bool true) x t e Q st=c0 P ob t Q (rN st x true):=by simp[tG]
theorem aac{x:dr}:tG P ob (.bool false) x t e Q st=c0 P ob e Q (rN st x false):=by simp[tG]
theorem bR{v:Bool}{x:dr}(J:v=true→c0 P ob t Q (rN st x true))(U:v=false→c0 P ob e Q (rN st x false)):tG P ob (.bool v) x t e Q st:=⟨J,U⟩
def yv(P:cB)(ob:List aD)(id:Nat)(c:C)(Q:Exit→bp→Prop)(e:Exit)(st:bp):Prop:=
 match e with
 | .normal=>c0 P ob c Q st
 | .exit j=>if j=id then c0 P ob c Q st else Q (.exit j) st
 |e=>Q e st
theorem ZQ{id:Nat}:c0 P ob (.seq (.block id a) c) Q st=c0 P ob a (yv P ob id c Q) st:=by
 simp only[c0];congr 1;funext e st';cases e with
 |exit j=>rfl
 |_=>rfl
theorem ZR{id:Nat}:c0 P ob (.block id a) Q st=c0 P ob a (yv P ob id .skip Q) st:=by
 simp only[c0];congr 1;funext e st';cases e with
 |exit j=>simp only[yv];by_cases af:j=id<;>simp[af,c0]
 |_=>rfl
theorem XK{id:Nat}:yv P ob id c Q .normal st=yz P ob c Q st:=rfl
theorem XJ{id j:Nat}:yv P ob id c Q (.exit j) st=if j=id then yz P ob c Q st else Q (.exit j) st:=rfl
theorem XL{id:Nat}:yv P ob id c Q .ret st=Q .ret st:=rfl
def bO(ob:List aD)(gV:Nat→bp→Prop)(k:Nat)(Q:Exit→bp→Prop)(e:Exit)(st:bp):Prop:=
 match e with
 | .normal=> ∃bM ox,bM<k∧iz ob st ox∧gV bM ox
 |e=>Q e st
theorem DD{gV:Nat→bp→Prop}{k:Nat}:bO ob gV k Q .normal st= ∃bM ox,bM<k∧iz ob st ox∧gV bM ox:=rfl
theorem XT{gV:Nat→bp→Prop}{k n:Nat}:bO ob gV k Q (.exit n) st=Q (.exit n) st:=rfl
theorem XU{gV:Nat→bp→Prop}{k:Nat}:bO ob gV k Q .ret st=Q .ret st:=rfl
theorem tF(gV:Nat→bp→Prop)(m:Nat)(wi:bp)(hw:iz ob st wi)(bq:gV m wi)(h:∀k s,gV k s→(∀i,ef (get i s.t))→(∀j cs,look j s.b=some cs→gn cs=true→et cs)→c0 P ob a (bO ob gV k Q) s):c0 P ob (.loop a) Q st:=by
 simp only[c0];refine⟨gV,m,wi,hw,bq,fun k s J U ao=>?_⟩;have:=h k s J U ao;have br:(bO ob gV k Q)=(fun e ai=>match e with| .normal=> ∃bM ox,bM<k∧iz ob ai ox∧gV bM ox|e=>Q e ai):=by funext e ai;cases e<;>rfl
 rw[br]at this;exact this
end
/-Regions cL draw jM order. -/
def L3(n0:Nat)(st:bp)(i:ek):Prop:=match eB (oX n0 i) st.n (oX n0 i::st.o) st i with|some (c,_)=>c|none=>eR
def L4(n0:Nat)(st:bp)(i:ek):bp:=match eB (oX n0 i) st.n (oX n0 i::st.o) st i with|some (_,s)=>s|none=>st
def Hi(P:cB)(q:Bool)(nw:List Nat)(n0:Nat)(r:List c5)(K:bp→Prop)(st:bp):Prop:=hJ P q nw n0 r st K
def pD(P:cB)(q:Bool)(nw:List Nat)(n0:Nat)(v:ah)(s:Nat)(w:Bool)(i:ee)(r:List c5)(st:bp)(K:bp→Prop):Prop:=
 match v with
 | .bool b=>(b=w→hJ P q nw n0 (⟨none,i⟩::r) {st with t:=put s (.bool w) st.t} K)∧(b= !w→hJ P q nw n0 r {st with t:=eM i.dst (.tuple []) (put s (.bool !w) st.t)} K)
 | .tuple []=>hJ P q nw n0 r {st with t:=eM i.dst (.tuple []) st.t} K
 |_=>eR
def It(P:cB)(q:Bool)(nw:List Nat)(n0:Nat)(v:ah)(d:aY Nat)(xs:List ah)(r:List c5)(st:bp)(K:bp→Prop):Prop:=
 match v with
 | .func n da=>h1 P q nw n (cY (xs++da)) st d (Hi P q nw n0 r K)
 |_=>eR
section
variable {P:cB} {ob:List aD} {st:bp} {K:bp→Prop} {r:List c5} {Q:Exit→bp→Prop} {c:C} {q:Bool} {nw:List Nat} {n0 N:Nat}
theorem aah:hJ P q nw n0 [] st K=K st:=rfl
theorem aai{i:ek}:hJ P q nw n0 (⟨none,.s i⟩::r) st K=(lJ q nw n0 st i∧L3 n0 st i∧hJ P q nw n0 r (L4 n0 st i) K):=by
 simp only[hJ,j8,L3,L4];cases eB (oX n0 i) st.n (oX n0 i::st.o) st i with
 |none=>simp
 |some x=>rfl
theorem aaf{d:aY Nat}{f:dr}{xs:List dr}:hJ P q nw n0 (⟨none,.call d f xs⟩::r) st K=It P q nw n0 (cm st.t f) d (xs.map (cm st.t)) r st K:=by simp only[hJ,j8,It];rfl
theorem aae{n:Nat}{da:List ah}{d:aY Nat}{xs:List ah}:It P q nw n0 (.func n da) d xs r st K=h1 P q nw n (cY (xs++da)) st d (Hi P q nw n0 r K):=rfl
theorem aag{s:Nat}{w:Bool}{i:ee}:hJ P q nw n0 (⟨some (s,w),i⟩::r) st K=pD P q nw n0 (get s st.t) s w i r st K:=by simp only[hJ,pD];try rfl
theorem aan{s:Nat}{i:ee}:pD P q nw n0 (.bool true) s true i r st K=hJ P q nw n0 (⟨none,i⟩::r) {st with t:=put s (.bool true) st.t} K:=by simp[pD]
theorem aaj{s:Nat}{i:ee}:pD P q nw n0 (.bool false) s false i r st K=hJ P q nw n0 (⟨none,i⟩::r) {st with t:=put s (.bool false) st.t} K:=by simp[pD]
theorem aam{s:Nat}{i:ee}:pD P q nw n0 (.bool true) s false i r st K=hJ P q nw n0 r {st with t:=eM i.dst (.tuple []) (put s (.bool true) st.t)} K:=by simp[pD]
theorem aak{s:Nat}{i:ee}:pD P q nw n0 (.bool false) s true i r st K=hJ P q nw n0 r {st with t:=eM i.dst (.tuple []) (put s (.bool false) st.t)} K:=by simp[pD]
theorem aal{s:Nat}{w:Bool}{i:ee}:pD P q nw n0 (.tuple []) s w i r st K=hJ P q nw n0 r {st with t:=eM i.dst (.tuple []) st.t} K:=by simp[pD]
theorem bT{x:Bool}{s:Nat}{w:Bool}{i:ee}(J:x=w→hJ P q nw n0 (⟨none,i⟩::r) {st with t:=put s (.bool w) st.t} K)(U:x= !w→hJ P q nw n0 r {st with t:=eM i.dst (.tuple []) (put s (.bool !w) st.t)} K):pD P q nw n0 (.bool x) s w i r st K:=⟨J,U⟩
theorem ZU{gs:List c5}:c0 P ob (.seq (.drawn q N gs) c) Q st=hJ P q [] st.n gs st (tj (st.n+N) st.o (yz P ob c Q)):=rfl
theorem ZV{gs:List c5}:c0 P ob (.drawn q N gs) Q st=hJ P q [] st.n gs st (tj (st.n+N) st.o (Q .normal)):=rfl
theorem ZW{gs:List c5}:c0 P ob (.seq (.drawnW nw N gs) c) Q st=((∀j∈nw,.obj j∉st.o)∧hJ P false nw st.n gs st (tj (st.n+N) (nw.map aD.obj++st.o) (yz P ob c Q))):=rfl
theorem ZX{gs:List c5}:c0 P ob (.drawnW nw N gs) Q st=((∀j∈nw,.obj j∉st.o)∧hJ P false nw st.n gs st (tj (st.n+N) (nw.map aD.obj++st.o) (Q .normal))):=rfl
theorem h1.val{n:Nat}{args:List ah}{d:aY Nat}{r:ah}(ab:aG (fun _=>eR) args)(aH:bK P n args r)(h:K {st with t:=eM d r st.t}):h1 P q nw n args st d K:=by
 refine .inr ⟨⟨[],[]⟩,⟨[],[]⟩,r,none,fun k cs ab=>by simp[look]at ab,fun k cs ab=>by simp[look]at ab,xU,xU,⟨fun k h=>.inl h,fun k h=>.inl h,fun k h=>h,fun k h=>h,fun k h=>by cases h⟩,jH (fun _ h=>h.elim) _ ab,aH,fun _=>⟨rfl,rfl⟩,?_⟩;have:({after st ⟨[],[]⟩ ⟨[],[]⟩ d r with o:=st.o}:bp)={st with t:=eM d r st.t}:=by simp[after,MZ]
 rw[this];exact h
theorem aF{n:Nat}{args:List ah}{d:aY Nat}{r:ah}(aH:bK P n args r)(h:K {st with t:=eM d r st.t})(ab:aG (fun _=>eR) args:=by simp):h1 P q nw n args st d K:=h1.val ab aH h
end
section
variable {k:IntKind} {n:Int} {b:Bool} {s:List dz} {sz:Nat} {tag:A0} {xs:List ah} {key:aD} {off f:Nat} {x:ah}
@[simp] theorem asl:dY (.int k n)=true:=rfl
@[simp] theorem ar5:dY (.bool b)=true:=rfl
@[simp] theorem asv:dY (.str s)=true:=rfl
@[simp] theorem asu:dY (.slice sz tag xs)=true:=rfl
@[simp] theorem ar1:dY (.agg xs)=true:=rfl
@[simp] theorem ass:dY (.ptr key off)=true:=rfl
@[simp] theorem asg:dY (.eptr x)=true:=rfl
@[simp] theorem asj{t:Nat}:dY (.iface t x)=true:=rfl
@[simp] theorem an9{t:Nat}:cells (.iface t x)=[.iface t x]:=rfl
@[simp] theorem ar7{a:aY Addr}{n c:Nat}:dY (.cst (.slice a n c))=true:=rfl
@[simp] theorem ar8{s}:dY (.cst (.string s))=true:=rfl
@[simp] theorem asr:dY .nilp=true:=rfl
@[simp] theorem ash:dY (.func f xs)=true:=rfl
@[simp] theorem asi:dY (.gmap key)=true:=rfl
@[simp] theorem ast{n:Nat}:dY (.row sz key n)=true:=rfl
@[simp] theorem aoj{n:Nat}:cells (.row sz key n)=[.row sz key n]:=rfl
@[simp] theorem aoa:cells (.int k n)=[.int k n]:=rfl
@[simp] theorem anY:cells (.bool b)=[.bool b]:=rfl
@[simp] theorem aol:cells (.str s)=[.str s]:=rfl
@[simp] theorem aok:cells (.slice sz tag xs)=[.slice sz tag xs]:=rfl
@[simp] theorem anU:cells (.agg xs)=xs:=rfl
@[simp] theorem aoi:cells (.ptr key off)=[.ptr key off]:=rfl
@[simp] theorem an6:cells (.eptr x)=[.eptr x]:=rfl
@[simp] theorem aoh:cells .nilp=[.nilp]:=rfl
@[simp] theorem an7:cells (.func f xs)=[.func f xs]:=rfl
@[simp] theorem an8:cells (.gmap key)=[.gmap key]:=rfl
end
section
variable {b:List (aD×List ah)} {e:List (aD×fM)} {agg:Bool} {sz off:Nat} {k:aD} {p:ah} {cs xs bc:List ah} {fi:IntKind} {n i:Int} {m j:Nat} {tag:A0} {s:List dz} {NM:Bool} {lo hi:aY ah}
@[simp] theorem aqp{dD:Nat}{f:Nat}:mo b e agg sz (.rptr dD k m j f)=yd agg sz dD m j f (look k e):=rfl
@[simp] theorem aqo:mo b e agg sz (.ptr k off)=(match look k b with
  |some cs=>if agg then some (gn cs=true∧off+sz≤cs.length,.agg ((cs.drop off).take sz))else(cs[off]?).map fun p=>(gn cs=true,p)
  |none=>none):=rfl
@[simp] theorem aqn:mo b e agg sz (.eptr p)=if agg then some (isAgg sz p,p)else some (dY p=true∧cells p=[p],p):=rfl
@[simp] theorem aoO:Bs agg sz (.eptr p)=if agg then some (isAgg sz p,p)else some (dY p=true∧cells p=[p],p):=rfl
@[simp] theorem aoE{o:Nat}:pF off agg sz (.ptr k o)=some (True,.ptr k (o+off)):=rfl
@[simp] theorem aoF{dD f:Nat}:pF off agg sz (.rptr dD k m j f)=some (True,.rptr dD k m j (f+off)):=rfl
@[simp] theorem aox:pF off agg sz (.eptr (.agg cs))=if agg then some (off+sz≤cs.length,.eptr (.agg ((cs.drop off).take sz)))else(cs[off]?).map fun p=>(dY p=true∧cells p=[p],.eptr p):=rfl
@[simp] theorem aoH:q2 off agg sz (.agg cs)=if agg then some (off+sz≤cs.length,.agg ((cs.drop off).take sz))else(cs[off]?).map fun p=>(True,p):=rfl
@[simp] theorem apm{dD:Nat}:zB sz (.slice dD tag xs) (.int fi i)=if dD=sz then some (0≤i∧i<xs.length,.eptr (xs.getD i.toNat .junk))else none:=rfl
@[simp] theorem apl{dD:Nat}:zB sz (.row dD k m) (.int fi i)=if dD=sz then some (0≤i∧i<m,.rptr dD k m i.toNat 0)else none:=rfl
@[simp] theorem aqm{dD:Nat}:zK (.slice dD tag xs)=some (True,.int .i64 xs.length):=rfl
@[simp] theorem aql{dD:Nat}:zK (.row dD k m)=some (True,.int .i64 m):=rfl
@[simp] theorem aqk{a:aY Addr}{n c:Nat}:zK (.cst (.slice a n c))=some (True,.int .i64 n):=rfl
@[simp] theorem arZ{s}:De (.cst (.string s))=some (True,.int .i64 s.size):=rfl
@[simp] theorem ar0:De (.str s)=some (True,.int .i64 s.length):=rfl
@[simp] theorem aow:yS j (.tuple bc)=(bc[j]?).map fun p=>(True,p):=rfl
@[simp] theorem aqP:zU (.ptr k off)=some (True,.ptr k off):=rfl
@[simp] theorem aqN:zU (.eptr p)=some (True,.eptr p):=rfl
@[simp] theorem aqO:zU (.func j cs)=some (True,.func j cs):=rfl
@[simp] theorem aqQ:FU (.bool NM)=some (True,.bool (!NM)):=rfl
@[simp] theorem arY:GL (.str s) (.int fi i)=some (0≤i∧i<s.length,.int .u8 (s.getD i.toNat 0).toNat):=rfl
@[simp] theorem asy:GQ (.str s) lo hi=(match qA 0 lo,qA s.length hi with
  |some l,some h=>some (0≤l∧l≤h∧h≤s.length,.str ((s.take h.toNat).drop l.toNat))
  |_,_=>none):=rfl
@[simp] theorem aqq{dD:Nat}:FF sz (.slice dD tag xs) lo hi=(if dD=sz then match qA 0 lo,qA xs.length hi with
  |some l,some h=>some (0≤l∧l≤h∧h≤xs.length,.slice sz .no ((xs.take h.toNat).drop l.toNat))
  |_,_=>none else none):=rfl
theorem Ug{f:aD→aY (List ah)}{ca:jl}{z q:ah}{ok:Bool}:nE f ca z ok (.gmap k) q=(match f k with
  |some (.hdm _ _::kvs)=>if ue ca q=false then none else match vP ca q kvs with
   |some (some v)=>some (True,if ok then .tuple [v,.bool true]else v)
   |some none=>some (True,if ok then .tuple [z,.bool false]else z)
   |none=>none
  |_=>none):=rfl
theorem ag2{f:aD→aY (List ah)}:ur f (.gmap k)=(match f k with
  |some (.hdm _ borns::_)=>some (True,.int .i64 borns.length)
  |_=>none):=rfl
theorem Ud{f:aD→aY (List ah)}:pf f (.ptr k 0)=(match f k with
  |some [.hdi _ seen last,.gmap mk]=>match f mk with
   |some (.hdm clock borns::kvs)=>match seen.getLast? with
    |some n=>(mq n borns kvs).map fun p=>(clock=last,p)
    |none=>none
   |_=>none
  |_=>none):=rfl
@[simp] theorem arV{dD f n' el iZ:Nat}:yd agg sz dD m j f (some ⟨n',el,iZ,some xs⟩)=(if n'=m∧iZ=dD then
   (match xs[j]? with
    |some p=>if agg then some (dY p=true∧f+sz≤(cells p).length,.agg (((cells p).drop f).take sz))else((cells p)[f]?).map fun q=>(dY p=true,q)
    |none=>none)else none):=rfl
end
attribute [simp] ZP Z6 ZQ ZS aaa Z8 ZY aab Z9 ZZ Z7 ZR ZT yz XK XJ XL XT XU aas aat aap aao aaq
 aay aau aax aav aaw aad aac L5 L6 lW hg j2 cm get put jy pR mY mZ cw qA A6 Ff GR nH tz F7 FP Eg FO
 look eM ek.dst ee.dst rN DG sb cY dm aB aG
 ZU ZV ZW ZX aah aai aaf aae aag aan aaj aam aak aal L3 L4 eB oX lJ w4 fP.loadO tj Hi xE gn sc aar Z4 Z5 Z0 Z1 Z2 Z3 vb IU sg yY XY vZ CV vY qI mu ig FJ
theorem aE{P:cB}{n:Nat}{args:List ah}{st:bp}{d:aY Nat}{K:bp→Prop}{r:ah}(aH:bK P n args r)(h:K {st with t:=eM d r st.t})(ab:aG (fun _=>eR) args:=by simp):cV P n args st d K:=cV.val ab aH h
theorem aj{a b:Prop}(ae:b)(bD:a:=by first|omega|(unfold sH;omega)|(unfold lim;omega)):a∧b:=⟨bD,ae⟩
theorem cv{p:Prop}(h:eR:=by first|contradiction|omega):p:=h.elim
theorem b6{p:Prop}(h:p:=by(try simp[*]);(repeat' first|with_reducible refine aj ?_|with_reducible refine aE (by assumption) ?_|with_reducible refine aF (by assumption) ?_|simp[*]);(all_goals first|done|(simp[bu,aV,aW,aU, *];done))):p:=h
end Go.Pv
namespace Go.Pv
open Go Go.RowKit
structure dT (s:cE):Prop where
 obj:iJ s
 kb:∀k cs,look k s.b=some cs→aG (inObs s) cs
 ke:∀k o,look k s.e=some o→dR (inObs s) o
structure Same (s ai:cE):Prop where
 b:∀k,(look k s.b).isSome=(look k ai.b).isSome
 e:∀k,(look k s.e).isSome=(look k ai.e).isSome
theorem Same.refl(s:cE):Same s s:=⟨fun _=>rfl,fun _=>rfl⟩
theorem Same.inObs{s ai:cE}(h:Same s ai)(k:aD):inObs s k↔inObs ai k:=by unfold Pv.inObs;rw[h.b,h.e]
theorem um{α:Type}{k:aD}{x:α}:∀{l:List (aD×α)},(k,x)∈l→(look k l).isSome
 |(i,y)::r,h=>by
  simp only[look];split
  ·rfl
  ·rename_i cF;rcases fK.1 h with h|h
   ·cases h;exact absurd rfl cF
   ·exact um h
theorem SU{s:cE}{k:aD}(h:k∈cW s):inObs s k:=by
 unfold cW at h;rcases jP.1 h with h|h
 ·obtain⟨⟨bM,x⟩,J,rfl⟩:=iO.1 h;exact .inl (um J)
 ·obtain⟨⟨bM,x⟩,J,rfl⟩:=iO.1 h;exact .inr (um J)
theorem jx{s:cE}(h:iJ s)(m:Nat):aD.loc m∉cW s:=fun hm=>by
 rcases SU hm with J|J
 ·rw[h.1 m]at J;cases J
 ·rw[h.2 m]at J;cases J
theorem hT{α β:Type}(s:List (aD×β)):∀(a b:List (aD×α)),cn s (a++b)=cn s a++cn s b
 |[],b=>rfl
 |(k,x)::r,b=>by
  simp only[bP,cn];cases look k s with
  |none=>simp[hT s r b]
  |some _=>exact hT s r b
theorem M0{α β:Type}(s:List (aD×β)):∀(l:List (aD×α)),(∀k x,(k,x)∈l→(look k s).isSome)→cn s l=[]
 |[],_=>rfl
 |(k,x)::r,h=>by
  have J:=h k x (by simp);simp only[cn];cases ar:look k s with
  |none=>rw[ar]at J;cases J
  |some _=>exact M0 s r fun k x ad=>h k x (by simp[ad])
theorem gA{α:Type}(s:List (aD×α)):cn s s=[]:=M0 s s fun k x h=>um h
theorem jB{α:Type}{k:aD}{x:α}:∀{l:List (aD×α)},look k l=none→cw k x l=l++[(k,x)]
 |[],_=>rfl
 |(i,y)::r,h=>by
  simp only[look]at h;split at h
  ·cases h
  ·rename_i cF;simp[cw,cF,jB h]
theorem cD{α:Type}(k:aD):∀(a b:List (aD×α)),look k (a++b)=match look k a with|some x=>some x|none=>look k b
 |[],b=>rfl
 |(i,y)::r,b=>by
  simp only[bP,look];split
  ·rfl
  ·exact cD k r b
theorem cV.ob{P:cB}{n:Nat}{args:List ah}{st:bp}{d:aY Nat}{K:bp→Prop}{s:cE}{Q:ah→cE→Prop}(aH:bF P n args s Q)(ag:dT s)(ae:∀k cs,look k s.b=some cs→look k st.b=some cs)(he:∀k o,look k s.e=some o→look k st.e=some o)
  (ab:aG (inObs s) args) (h:∀r ai,Q r ai→Same s ai∧K ⟨eM d r st.t,cn s.b st.b++ai.b,cn s.e st.e++ai.e,st.n,st.o++cW ai⟩):cV P n args st d K:=by
 refine .inl ⟨s,Q,fun k cs aw=>⟨ae k cs aw,.inl (by simp[aw]),ag.kb k cs aw⟩,fun k o av=>⟨he k o av,.inr (by simp[av]),ag.ke k o av⟩,ag.obj,ab,aH,fun r ai br=>?_⟩;obtain⟨J,U⟩:=h r ai br;exact⟨⟨fun m hm=>.inl (by rw[J.b];exact hm),fun m hm=>.inl (by rw[J.e];exact hm)⟩,U⟩
theorem cH.ob{fh:List bt}{s ai:cE}{Q:ah→cE→Prop}{e:Exit}{st:bp}{c:Prop}{cu:List ah}(tP:e= .ret∨e= .normal)(xw:aV st fh=some (c,cu))(aw:c)(ag:dT ai)(e9:Same s ai)(ae:∀k cs,look k ai.b=some cs→look k st.b=some cs)(dw:∀k o,look k ai.e=some o→look k st.e=some o)
  (ab:aB (inObs ai) (dm (aU cu))) (br:Q (dm (aU cu)) ai):cH fh s Q e st:=by
 refine⟨tP,?_⟩;rw[xw];have R7:∀{α:Type} (l:List (aD×α)),(∀k x,(k,x)∈l→inObs ai k)→lU ai l:=by
  intro α l;induction l with
  |nil=>intro _;trivial
  |cons x r bN=>obtain⟨k,x⟩:=x;intro h;exact⟨h k x (by simp),bN fun k x ad=>h k x (by simp[ad])⟩
 exact⟨aw,ai,R7 _ fun k x ad=>.inl (by rw[←e9.b];exact um ad),R7 _ fun k x ad=>.inr (by rw[←e9.e];exact um ad),fun k cs dp=>⟨ae k cs dp,.inl (by simp[dp]),ag.kb k cs dp⟩,fun k o av=>⟨dw k o av,.inr (by simp[av]),ag.ke k o av⟩,ag.obj,ab,br⟩
theorem bF.mono{P:cB}{f:FuncId}{args:List ah}{s:cE}{Q qa:ah→cE→Prop}(h:bF P f args s Q)(br:∀r ai,Q r ai→qa r ai):bF P f args s qa:=by
 intro w ν bc J U ao;have hm:∀(e:Ending) (w':World),(∃v r ai bo,e= .returned v∧Q r ai∧ba w' bo r v∧Good (fun bl=>fx ν s bl∨w.heap.size≤bl) w' bo ai.b ai.e∧o2 bo ai∧iJ ai∧p8 ⟨w,ν,fx ν s,0,cW s⟩ w' bo)→(∃v r ai bo,e= .returned v∧qa r ai∧ba w' bo r v∧Good (fun bl=>fx ν s bl∨w.heap.size≤bl) w' bo ai.b ai.e∧o2 bo ai∧iJ ai∧p8 ⟨w,ν,fx ν s,0,cW s⟩ w' bo):=by rintro e w' ⟨v,r,ai,bo,bC,a2,a3⟩;exact⟨v,r,ai,bo,bC,br _ _ a2,a3⟩
 rcases h w ν bc J U ao with⟨qp,aw⟩|⟨v,w',aw,aK⟩
 ·exact .inl ⟨qp,aw.mono hm⟩
 ·exact .inr ⟨v,w',aw,hm _ _ aK⟩
theorem CG{s:cE}{k:aD}(h:inObs s k):¬fresh 0 (cW s) k:=fun aH=>aH.2 (sS h)
theorem iz.ob{s:cE}(ag:dT s){st:bp}{dG:List (Nat×ah)}(aL:∀x∈dG,get x.1 st.t=x.2∧aB (inObs s) x.2)(ae:∀k cs,look k s.b=some cs→look k st.b=some cs)(he:∀k o,look k s.e=some o→look k st.e=some o):
  iz (cW s) st ⟨dG,s.b,s.e,0,cW s⟩:=
 ⟨fun x ad=>⟨(aL x ad).1,vJ (fun k ab=>CG ab) _ (aL x ad).2⟩,fun k cs aw=>⟨ae k cs aw,CG (.inl (by simp[aw])),jH (fun k ab=>CG ab) _ (ag.kb k cs aw)⟩,
  fun k o av=>⟨he k o av,CG (.inr (by simp[av])),fun xs ad=>jH (fun k ab=>CG ab) _ (ag.ke k o av xs ad)⟩,fun m hm=>hm⟩
def cI(st:bp)(fh:List bt)(R:ah→Prop):Prop:=match aV st fh with
 |some (c,cu)=>c∧R (dm (aU cu))
 |none=>eR
theorem cH.at{fh:List bt}{s:cE}{Q:ah→cE→Prop}{e:Exit}{st:bp}(ai:cE)(tP:e= .ret∨e= .normal)(ag:dT ai)(e9:Same s ai)(ae:∀k cs,look k ai.b=some cs→look k st.b=some cs)(dw:∀k o,look k ai.e=some o→look k st.e=some o)
  (h:cI st fh fun r=>aB (inObs ai) r∧Q r ai):cH fh s Q e st:=by
 unfold cI at h;split at h
 ·rename_i c cu aK;exact cH.ob tP aK h.1 ag e9 ae dw h.2.1 h.2.2
 ·exact h.elim
theorem h1.ob{P:cB}{nw:List Nat}{n:Nat}{args:List ah}{st:bp}{d:aY Nat}{K:bp→Prop}{s ai:cE}{r:ah}(aH:bF P n args s fun eF dG=>eF=r∧dG=ai)(ag:dT s)(eO:dT ai)(e9:Same s ai)(ae:∀k cs,look k s.b=some cs→look k st.b=some cs)(he:∀k o,look k s.e=some o→look k st.e=some o)
  (ab:aG (inObs s) args) (h:K ⟨eM d r st.t,cn s.b st.b++ai.b,cn s.e st.e++ai.e,st.n,st.o⟩):h1 P false nw n args st d K:=
 .inr ⟨s,ai,r,none,fun k cs aw=>⟨ae k cs aw,.inl (by simp[aw]),ag.kb k cs aw⟩,fun k o av=>⟨he k o av,.inr (by simp[av]),ag.ke k o av⟩,ag.obj,eO.obj,⟨fun k ab=>.inl (by rw[e9.b];exact ab),fun k ab=>.inl (by rw[e9.e];exact ab),fun k ab=>by rw[←e9.b];exact ab,fun k ab=>by rw[←e9.e];exact ab,fun k ab=>by cases ab⟩,ab,aH,(fun e=>by cases e),h⟩
theorem dT.of{s:cE}(av:iJ s)(ae:∀x∈s.b,aG (inObs s) x.2)(he:∀x∈s.e,∀xs,x.2.xs=some xs→aG (inObs s) xs):dT s:=⟨av,fun k cs ab=>ae (k,cs) (sN ab),fun k o ab xs ad=>he (k,o) (sN ab) xs ad⟩
@[simp] theorem aqR(b:List (aD×List ah))(e:List (aD×fM)):cW ⟨b,e⟩=b.map (·.1)++e.map (·.1):=rfl
theorem AM{α:Type}{k:aD}{p:α}:∀{a r:List (aD×α)},look k a=none→cw k p (a++r)=a++cw k p r
 |[],_,_=>rfl
 |(i,y)::a,r,h=>by
  simp only[look]at h;split at h
  ·cases h
  ·rename_i cF;simp[cw,cF,AM h]
theorem agj{α:Type}{s b:List (aD×α)}(h:∀p∈s,look p.1 b=some p.2):∀k x,look k s=some x→look k b=some x:=fun k x ad=>h (k,x) (sN ad)
theorem ec{S:aD→Prop}{b2 b:List (aD×List ah)}(h:∀p∈b2,look p.1 b=some p.2∧S p.1∧aG S p.2):gE S b2 b:=fun k x ad=>h (k,x) (sN ad)
theorem ed{S:aD→Prop}{b2 b:List (aD×fM)}(h:∀p∈b2,look p.1 b=some p.2∧S p.1∧dR S p.2):oA S b2 b:=fun k x ad=>h (k,x) (sN ad)
theorem aO{α:Type}{s b:List (aD×α)}(h:∀k x,look k s=some x→look k b=some x:=by first|(refine agj ?_;simp;done)|(intro k x ad;first|exact ad|(simp[ad,gA];done)|(simp[cD,gA,ad];done)|(cases k<;>simp_all[cD];done))):∀k x,look k s=some x→look k b=some x:=h
theorem bV{ob:List aD}{st st':bp}(J:∀x∈st'.t,get x.1 st.t=x.2∧aB (fun k=> ¬fresh st'.n st'.o k) x.2:=by simp[fresh,aG,aB,cg,inObs,Pv.look])(U:∀p∈st'.b,look p.1 st.b=some p.2∧(¬fresh st'.n st'.o p.1)∧aG (fun k=> ¬fresh st'.n st'.o k) p.2:=by simp[fresh,aG,aB,cg,inObs,Pv.look])(ao:∀p∈st'.e,look p.1 st.e=some p.2∧(¬fresh st'.n st'.o p.1)∧dR (fun k=> ¬fresh st'.n st'.o k) p.2:=by simp[fresh,aG,aB,dR,inObs,Pv.look])(a7:∀m∈ob,m∈st'.o:=by simp):iz ob st st':=⟨J,ec U,ed ao,a7⟩
theorem bO.next{ob:List aD}{gV:Nat→bp→Prop}{k:Nat}{Q:Exit→bp→Prop}{st:bp}(bM:Nat){ai:bp}(ab:bM<k)(hi:gV bM ai)(hw:iz ob st ai):bO ob gV k Q .normal st:=⟨bM,ai,ab,hw,hi⟩
def j9:List (Int×ah)→List ah
 |[]=>[]
 |(k,v)::r=>.int .i64 k::v::j9 r
def jf(l:List (Int×ah)):List ah:= .hdm l.length (List.range l.length)::j9 l
def wN(k:Int):List (Int×ah)→aY ah
 |[]=>none
 |(i,v)::r=>if k=i then some v else wN k r
def oS(k:Int)(v:ah):List (Int×ah)→aY (List (Int×ah))
 |[]=>none
 |(i,w)::r=>if k=i then some ((k,v)::r)else match oS k v r with|some eF=>some ((i,w)::eF)|none=>none
def DR(k:Int)(v:ah)(l:List (Int×ah)):List (Int×ah):=match oS k v l with|some aX=>aX|none=>l++[(k,v)]
@[simp] theorem aqA:[ah.hdm 0 []]=jf []:=rfl
theorem Q2:∀a b,j9 (a++b)=j9 a++j9 b
 |[],_=>rfl
 |(k,v)::r,b=>by simp[j9,Q2 r b]
theorem Ue(k:Int):∀l,vP .i (.int .i64 k) (j9 l)=some (wN k l)
 |[]=>rfl
 |(i,v)::r=>by
  simp only[j9,vP,sK,wN];by_cases h:k=i
  ·simp[h]
  ·have:(k==i)=false:=by simp[h]
   simp[h,Ue k r,this]
theorem ND{k:Int}{v:ah}:∀{l aX},oS k v l=some aX→aX.length=l.length
 |[],_,h=>by simp[oS]at h
 |(i,w)::r,aX,h=>by
  simp only[oS]at h;split at h
  ·cases h;rfl
  ·split at h
   ·rename_i eF aK;cases h;simp[ND aK]
   ·cases h
theorem Uq(k:Int)(v:ah):∀l,uu .i (.int .i64 k) v (j9 l)=some ((oS k v l).map j9)
 |[]=>rfl
 |(i,w)::r=>by
  simp only[j9,uu,sK,oS];by_cases h:k=i
  ·subst h;simp[j9]
  ·simp only[and_self,if_true,h,if_false,dL,Uq k v r];have:(k==i)=false:=by simp[h]
   rw[this];cases oS k v r<;>simp[j9]
@[simp] theorem Up(k:Int)(v:ah)(l:List (Int×ah)):ou .i (.int .i64 k) v (jf l)=some (jf (DR k v l)):=by
 simp only[jf,ou,Tq,Bool.true_eq_false,reduceCtorEq,if_false,Uq,DR];cases h:oS k v l with
 |some aX=>simp[ND h]
 |none=>simp[Q2,j9,List.range_succ]
@[simp] theorem agL(f:aD→aY (List ah))(m:aD)(l:List (Int×ah))(z:ah)(ok:Bool)(k:Int)(hm:f m=some (jf l)):nE f .i z ok (.gmap m) (.int .i64 k)=(match wN k l with
  |some v=>some (True,if ok then .tuple [v,.bool true]else v)
  |none=>some (True,if ok then .tuple [z,.bool false]else z)):=by
 simp only[Ug,hm,jf,Tq,Bool.true_eq_false,reduceCtorEq,if_false,Ue];cases wN k l<;>rfl
@[simp] theorem ag3(f:aD→aY (List ah))(m:aD)(l:List (Int×ah))(hm:f m=some (jf l)):ur f (.gmap m)=some (True,.int .i64 l.length):=by simp[ag2,hm,jf]
def cg(n:Nat)(seen:List Nat)(m:aD):List ah:=[.hdi n seen n,.gmap m]
@[simp] theorem arU(m:aD)(l:List (Int×ah)):wb m (jf l)=some (cg l.length [] m):=rfl
@[simp] theorem aq0(l:List (Int×ah)):gn (jf l)=false:=rfl
theorem KC(b:Nat):∀(n:Nat) (l:List (Int×ah)),mq b (List.range' n l.length) (j9 l)=(if n≤b then(l[b-n]?).map fun x=>.tuple [.int .i64 x.1,x.2]else none)
 |n,[]=>by simp[mq,j9]
 |n,(k,v)::r=>by
  simp only[oJ,List.range'_succ,j9,mq];by_cases h:n=b
  ·subst h;simp
  ·rw[if_neg h,KC b (n+1) r];by_cases U:n≤b
   ·rw[if_pos U,if_pos (by omega)];have:b-n=(b-(n+1))+1:=by omega
    rw[this];simp
   ·rw[if_neg U,if_neg (by omega)]
@[simp] theorem Uc(f:aD→aY (List ah))(fi mk:aD)(n:Nat)(seen:List Nat)(b:Nat)(l:List (Int×ah))(hi:f fi=some (cg n (seen++[b]) mk))(hm:f mk=some (jf l))(aA:n=l.length):pf f (.ptr fi 0)=(l[b]?).map fun x=>(True,.tuple [.int .i64 x.1,x.2]):=by subst aA;simp only[Ud,hi,hm,cg,jf,List.getLast?_append,List.getLast?_singleton,Option.some_or,List.range_eq_range',KC,Nat.zero_le,if_true,Nat.sub_zero,Option.map_map];cases l[b]?<;>simp
theorem QA{st:bp}{d:Nat}{K:bp→Prop}{fi mk:aD}{n:Nat}{seen:List Nat}{l:List (Int×ah)}(hi:look fi st.b=some (cg n seen mk))(hm:look mk st.b=some (jf l))(aA:n=l.length)
  (J:(∀b,b<n→b∈seen)→K {st with t:=put d (.tuple [.bool false]) st.t}) (U:∀b k v,l[b]? =some (k,v)→b∉seen→K {st with t:=put d (.tuple [.bool true,.int .i64 k,v]) st.t,b:=cw fi (cg n (seen++[b]) mk) st.b}):
  sk st d (.ptr fi 0) K:=by
 subst aA;simp only[sk,hi,cg,hm,jf,KQ,and_self,true_and];refine⟨fun h=>J fun b ae=>h b (by simpa using ae),fun b k v xr ae=>?_⟩;rw[List.range_eq_range',KC]at xr;simp only[Nat.zero_le,if_true,Nat.sub_zero,gN,ah.tuple.injEq,nQ,and_true]at xr;obtain⟨⟨bM,v'⟩,ak,aC,bj⟩:=xr;simp only at aC bj;subst aC bj;exact U b bM v' ak ae
theorem ajn{n:Nat}{seen:List Nat}(aR:seen.Nodup)(bA:∀b∈seen,b<n)(lg:∀b,b<n→b∈seen):seen.Perm (List.range n):=(List.perm_ext_iff_of_nodup aR List.nodup_range).2 fun b=>⟨fun h=>by simpa using bA b h,fun h=>lg b (by simpa using h)⟩
theorem GI{n:Nat}{seen:List Nat}(aR:seen.Nodup)(bA:∀b∈seen,b<n):seen.length≤n:=by have:=M6 aR (l₂:=List.range n) (fun b ae=>by simpa using bA b ae);simpa using this
theorem Ma{n b:Nat}{seen:List Nat}(aR:seen.Nodup)(bA:∀b∈seen,b<n)(ae:b<n)(aA:b∉seen):seen.length<n:=by have J:(b::seen).Nodup:=List.nodup_cons.2 ⟨aA,aR⟩;have:=GI J (n:=n) (by simp;exact⟨ae,bA⟩);simp at this;omega
theorem VP{α:Type}:∀(l pre:List α),(List.range' pre.length l.length).filterMap (fun b=>(pre++l)[b]?)=l
 |[],_=>rfl
 |x::r,pre=>by have bN:=VP r (pre++[x]);simp only[oI,List.length_singleton,List.append_assoc,List.singleton_append]at bN;simp[List.range'_succ,bN]
theorem L9{α:Type}{l:List α}{seen:List Nat}(aR:seen.Nodup)(bA:∀b∈seen,b<l.length)(lg:∀b,b<l.length→b∈seen):(seen.filterMap fun b=>l[b]?).Perm l:=by have J:=(ajn aR bA lg).filterMap fun b=>l[b]?;have U:=VP l [];simp only[List.length_nil,bX,←List.range_eq_range']at U;rwa[U]at J
theorem KU{b:Nat}{seen:List Nat}(aR:seen.Nodup)(aA:b∉seen):(seen++[b]).Nodup:=by rw[List.nodup_append];exact⟨aR,by simp,by simp;intro a bD e;subst e;exact aA bD⟩
theorem cT.start{w:World}{ν:bd}{s:cE}{args:List ah}{bc:Array Value}(o9:iJ s)(a8:Good (fx ν s) w ν s.b s.e)(ad:o2 ν s)(aK:cP w ν args bc.toList):
  cT ⟨w,ν,fx ν s,bc.size,cW s⟩ ⟨j2 0 args,s.b,s.e,0,cW s⟩ {tmps:=bc,defers:=[]} w ν:=by
 have pM:=C5 aK;have kE:bc.size=args.length:=by simpa using pM
 have od:∀k,fresh 0 (cW s) k→ν.bx k=none∧ν.ow k=none∧∀j b,¬ν.tr k j b:=by
  intro k ab;cases k with
  |loc m=>exact⟨(ad _).1 (o9.1 m),(ad _).2.1 (o9.2 m),(ad _).2.2⟩
  |obj m=>
   simp only[fresh,true_and]at ab;refine⟨?_,?_,(ad _).2.2⟩
   ·refine(ad _).1 ?_;cases h:look (.obj m) s.b with
    |none=>rfl
    |some x=>exact absurd (sS (.inl (by simp[h]))) ab
   ·refine(ad _).2.1 ?_;cases h:look (.obj m) s.e with
    |none=>rfl
    |some x=>exact absurd (sS (.inr (by simp[h]))) ab
 have jc:∀m,(ν.bx (.obj m)≠none∨ν.ow (.obj m)≠none)→ .obj m∈cW s:=by
  intro m hm;refine Classical.byContradiction fun aw=>?_;obtain⟨J,U,_⟩:=od (.obj m) ⟨trivial,aw⟩;rcases hm with hm|hm
  ·exact hm J
  ·exact hm U
 refine⟨⟨a8.alt,fun k cs ab=>?_,a8.inj,fun g o eT=>?_,a8.oinj,a8.obx,a8.one,a8.otr⟩,⟨rfl,rfl,rfl,eV _,fun _ _ _=>rfl,fun b o h=>⟨h,rfl⟩,fun b o h=>.inl h,fun n b h=>h,fun n b h=>jc n (.inl (by rw[h];simp)),fun m n u h=>⟨n,u,h,.inl ⟨rfl,rfl⟩⟩,fun m n u h=>jc m (.inr (by rw[h];simp)),fun k j _ _ b h=>absurd h ((ad k).2.2 j b),fun k j b h=>absurd h ((ad k).2.2 j b),fun k j b h=>absurd h ((ad k).2.2 j b),fun _ _ _=>rfl⟩,rfl,rfl,fun i=>?_,od⟩
 ·obtain⟨bl,us,el,g1,g2,g3⟩:=a8.box k cs ab;exact⟨bl,us,el,g1,.inl g2,g3⟩
 ·obtain⟨v,us,g1,g2,g3,g4⟩:=a8.own g o eT;exact⟨v,us,g1,g2,fun bl fA=>⟨.inl (g3 bl fA).1,(g3 bl fA).2⟩,g4⟩
 ·rw[I3];by_cases hi:i<args.length
  ·rw[if_pos (by omega)];have tU:args[i]? =some args[i]:=cf hi;obtain⟨v,ak,aC⟩:=Gz i aK tU;have Ik:bc[i]? =some v:=by simpa using ak
   show ba w ν _ (bc.getD i undef);rw[Array.getD_eq_getD_getElem?,Ik];simpa[List.getD,tU]using aC
  ·rw[if_neg (by omega)];simp[ba]
theorem bF.sem{P:cB}{f:FuncId}{args:List ah}{s:cE}{Q:ah→cE→Prop}(o9:iJ s)
  (h:∀(w:World) (ν:bd) (bc:Array Value),bc.size=args.length→cT ⟨w,ν,fx ν s,bc.size,cW s⟩ ⟨j2 0 args,s.b,s.e,0,cW s⟩ {tmps:=bc,defers:=[]} w ν→
   wD P f bc w fun e w'=> ∃v st' bn bo r ai,e= .returned v∧cT ⟨w,ν,fx ν s,bc.size,cW s⟩ st' bn w' bo∧ba w' bo r v∧lU ai s.b∧lU ai s.e∧gE (inObs ai) ai.b st'.b∧oA (inObs ai) ai.e st'.e∧iJ ai∧aB (inObs ai) r∧Q r ai):bF P f args s Q:=by
 intro w ν bc a8 ad aK;have kE:bc.size=args.length:=by simpa using C5 aK
 have pJ:=cT.start o9 a8 ad aK;have hm:∀(e:Ending) (w':World),(∃v st' bn bo r ai,e= .returned v∧cT ⟨w,ν,fx ν s,bc.size,cW s⟩ st' bn w' bo∧ba w' bo r v∧lU ai s.b∧lU ai s.e∧gE (inObs ai) ai.b st'.b∧oA (inObs ai) ai.e st'.e∧iJ ai∧aB (inObs ai) r∧Q r ai)→
   ∃v r ai bo,e= .returned v∧Q r ai∧ba w' bo r v∧Good (fun bl=>fx ν s bl∨w.heap.size≤bl) w' bo ai.b ai.e∧o2 bo ai∧iJ ai∧p8 ⟨w,ν,fx ν s,0,cW s⟩ w' bo:=by
  rintro e w' ⟨v,st',bn,bo,r,ai,rfl,dC,jJ,kb,ke,a6,bB,bS,c1,c9⟩;refine⟨v,r,ai,bo.cut (inObs ai),rfl,c9,uG (oP.cut _ w' bo) _ _ c1 jJ,dC.good.cut a6 bB (fun bl h _=>h),?_,bS,?_⟩
  ·intro k;refine⟨?_,?_,?_⟩;rotate_left 2
   ·rintro j b ⟨ag,ae⟩;obtain⟨t1,t2⟩:=dC.fr.trn k j b ae;rcases ag with ag|ag<;>obtain⟨x,h7⟩:=fL.1 ag
    ·obtain⟨bl,cj,el,ak,_⟩:=dC.good.box k x (a6 k x h7).1;rw[t1]at ak;cases ak
    ·obtain⟨v',cj,ak,_⟩:=dC.good.own k x (bB k x h7).1;rw[t2]at ak;cases ak
   ·intro ab;by_cases ag:inObs ai k
    ·rw[bd.cut_bx ag];rcases ag with ag|ag
     ·rw[ab]at ag;cases ag
     ·obtain⟨x,h7⟩:=fL.1 ag;obtain⟨v',cj,ak,_⟩:=dC.good.own k x (bB k x h7).1;rcases dC.good.one k with J|J
      ·exact J
      ·rw[J]at ak;cases ak
    ·exact(bd.cut_no ag).1
   ·intro ab;by_cases ag:inObs ai k
    ·rw[bd.cut_ow ag];rcases ag with ag|ag
     ·obtain⟨x,h7⟩:=fL.1 ag;obtain⟨bl,cj,el,ak,_⟩:=dC.good.box k x (a6 k x h7).1;rcases dC.good.one k with J|J
      ·rw[J]at ak;cases ak
      ·exact J
     ·rw[ab]at ag;cases ag
    ·exact(bd.cut_no ag).2.1
  ·refine⟨dC.fr.os,dC.fr.tape,dC.fr.output,dC.fr.size,dC.fr.block,dC.fr.keep,dC.fr.fresh,fun n b h=>?_,dC.fr.obn,fun m n u h=>?_,dC.fr.obr,fun k j bM dy b J U=>dC.fr.trd k j bM dy b J.2 U.2,fun k j b ae=>dC.fr.trb k j b ae.2,fun k j b ae=>(by rw[bd.cut_bx ae.1,bd.cut_ow ae.1];exact dC.fr.trn k j b ae.2),dC.fr.sh⟩
   ·have ag:inObs ai (.obj n):=by
     cases ar:look (.obj n) s.b with
     |none=>rw[(ad _).1 ar]at h;cases h
     |some x=>exact zG kb _ (by simp[ar])
    rw[bd.cut_bx ag];exact dC.fr.obj n b h
   ·have ag:inObs ai (.obj m):=by
     cases ar:look (.obj m) s.e with
     |none=>rw[(ad _).2.1 ar]at h;cases h
     |some x=>exact zG ke _ (by simp[ar])
    rw[bd.cut_ow ag];exact dC.fr.row m n u h
 rcases h w ν bc kE pJ with⟨qp,aw⟩|⟨v,w',aw,xw⟩
 ·exact .inl ⟨qp,aw.mono hm⟩
 ·exact .inr ⟨v,w',aw,hm _ _ xw⟩
theorem cT.grown{C:fc}{st:bp}{a:Act}{w w':World}{ν:bd}(h:cT C st a w ν)(a8:w.grownBy w' none):cT C st a w' ν:=by
 have kD:la w ν w' ν:=⟨fun b o bh=>⟨bh,Ed a8 (h.good.alt b o bh)⟩,fun _ _ _ h=>h,fun _ n u _ h=>⟨n,u,h,.inl ⟨rfl,rfl⟩⟩,fun b o bh=>wh (a8.block b (h.good.alt b o bh) (by simp)),fun _ _ _ _ h=>h⟩;refine h.over kD rfl ⟨fun b o bh=>Nat.lt_of_lt_of_le (h.good.alt b o bh) a8.size,fun k cs ab=>?_,h.good.inj,fun g o eT=>?_,h.good.oinj,h.good.obx,h.good.one,h.good.otr⟩
  ⟨a8.os.trans h.fr.os,a8.tape.trans h.fr.tape,a8.output.trans h.fr.output,j4 h.fr.size a8.size,fun k ab hm=>?_,fun b o bh=>?_,h.fr.fresh,h.fr.obj,h.fr.obn,h.fr.row,h.fr.obr,h.fr.trd,fun k j b ae=>⟨(h.fr.trb k j b ae).1,Nat.lt_of_lt_of_le (h.fr.trb k j b ae).2 a8.size⟩,h.fr.trn,fun b o bh=>(kD.sh b o (h.fr.keep b o bh).1).trans (h.fr.sh b o bh)⟩ h.new
 ·obtain⟨bl,us,el,g1,g2,g3,g4,g5⟩:=h.good.box k cs ab;exact⟨bl,us,el,g1,g2,g3,by rw[a8.block bl (Array.getElem?_eq_some_iff.1 g4).1 (by simp)];exact g4,pY kD g5⟩
 ·obtain⟨v,us,g1,g2,g3,g4⟩:=h.good.own g o eT;exact⟨v,us,g1,g2.kept a8 (by cases v.ownBlock<;>simp),g3,rO kD (fun _ _ _ h=>h) g4⟩
 ·rw[a8.block k (Nat.lt_of_lt_of_le ab h.fr.size) (by simp)];exact h.fr.block k ab hm
 ·obtain⟨aZ,bI⟩:=h.fr.keep b o bh;exact⟨aZ,(kD.A b o aZ).2.trans bI⟩
theorem cV.new{P:cB}{n:Nat}{args:List ah}{st:bp}{d:aY Nat}{K:bp→Prop}{s:cE}{Q:ah→cE→Prop}(aH:bF P n args s Q)(ag:dT s)(ae:∀k cs,look k s.b=some cs→look k st.b=some cs)(he:∀k o,look k s.e=some o→look k st.e=some o)
  (ab:aG (inObs s) args) (h:∀r ai,Q r ai→(∀m,inObs ai (.obj m)→inObs s (.obj m)∧Same s ai∨ .obj m∉st.o)∧K ⟨eM d r st.t,cn s.b st.b++ai.b,cn s.e st.e++ai.e,st.n,st.o++cW ai⟩):cV P n args st d K:=by
 refine .inl ⟨s,Q,fun k cs aw=>⟨ae k cs aw,.inl (by simp[aw]),ag.kb k cs aw⟩,fun k o av=>⟨he k o av,.inr (by simp[av]),ag.ke k o av⟩,ag.obj,ab,aH,fun r ai br=>?_⟩;obtain⟨J,U⟩:=h r ai br;refine⟨⟨fun m hm=>?_,fun m hm=>?_⟩,U⟩
 ·rcases J m (.inl hm)with⟨_,ao⟩|ao
  ·exact .inl (by rw[ao.b];exact hm)
  ·exact .inr ao
 ·rcases J m (.inr hm)with⟨_,ao⟩|ao
  ·exact .inl (by rw[ao.e];exact hm)
  ·exact .inr ao
theorem cH.new{fh:List bt}{s:cE}{Q:ah→cE→Prop}{e:Exit}{st:bp}(ai:cE)(tP:e= .ret∨e= .normal)(ag:dT ai)(e9:lU ai s.b∧lU ai s.e)(ae:∀k cs,look k ai.b=some cs→look k st.b=some cs)(dw:∀k o,look k ai.e=some o→look k st.e=some o)
  (h:cI st fh fun r=>aB (inObs ai) r∧Q r ai):cH fh s Q e st:=by
 unfold cI at h;split at h
 ·rename_i c cu aK;refine⟨tP,?_⟩;rw[aK];exact⟨h.1,ai,e9.1,e9.2,fun k cs dp=>⟨ae k cs dp,.inl (by simp[dp]),ag.kb k cs dp⟩,fun k o av=>⟨dw k o av,.inr (by simp[av]),ag.ke k o av⟩,ag.obj,h.2.1,h.2.2⟩
 ·exact h.elim
@[simp] theorem aot{P:cB}{ob:List aD}{c d:C}{Q:Exit→bp→Prop}{st:bp}{s:Nat}:c0 P ob (.seq (.pub s c) d) Q st=wH P ob (.seq c d) Q (vZ st s):=by simp only[c0];cases vZ st s<;>rfl
@[simp] theorem aos{P:cB}{ob:List aD}{c d:C}{Q:Exit→bp→Prop}{st:bp}{s:Nat}:c0 P ob (.seq (.pubB s c) d) Q st=wH P ob (.seq c d) Q (vY st s):=by simp only[c0];cases vY st s<;>rfl
end Go.Pv
namespace Go.Pv
open Go Go.RowKit
def ud(t:List (Nat×ah))(ca:List Nat):List (Nat×ah):=ca.map fun k=>(k,get k t)
@[simp] theorem apC(t:List (Nat×ah)):ud t []=[]:=rfl
@[simp] theorem apB(t:List (Nat×ah))(k:Nat)(ca:List Nat):ud t (k::ca)=(k,get k t)::ud t ca:=rfl
def pj(st:bp)(ca:List Nat)(cs:List (Nat×ah)):bp:=⟨ud st.t ca++cs,st.b,st.e,st.n,st.o⟩
theorem ag0(t:List (Nat×ah))(b:List (aD×List ah))(e:List (aD×fM))(n:Nat)(o:List aD)(ca:List Nat)(cs:List (Nat×ah)):pj ⟨t,b,e,n,o⟩ ca cs=⟨ud t ca++cs,b,e,n,o⟩:=rfl
def yw{α:Type}(S:Nat→α→bp)(n:Nat)(e5:Nat→α→Prop)(k:Nat)(st:bp):Prop:= ∃i a,i≤n∧k=n-i∧e5 i a∧st=S i a
section
variable {P:cB} {ob:List aD} {st:bp} {Q:Exit→bp→Prop} {c:C} {α:Type}
theorem gP(S:Nat→α→bp)(n:Nat)(e5:Nat→α→Prop)(a0:α)(hw:iz ob st (S 0 a0))(bq:e5 0 a0)(vj:∀a,e5 n a→(∀i,ef (get i (S n a).t))→c0 P ob c (bO ob (yw S n e5) 0 Q) (S n a))
  (jt:∀i a,i<n→e5 i a→(∀j,ef (get j (S i a).t))→c0 P ob c (bO ob (yw S n e5) (n-i) Q) (S i a)):c0 P ob (.loop c) Q st:=by
 refine tF (yw S n e5) n _ hw ⟨0,a0,by omega,by omega,bq,rfl⟩ ?_;rintro k s ⟨i,a,hi,rfl,af,rfl⟩ ae _;rcases Nat.lt_or_ge i n with h|h
 ·exact jt i a h af ae
 ·obtain rfl:i=n:=by omega
  rw[Nat.sub_self];exact vj a af ae
theorem bO.rng{S:Nat→α→bp}{n:Nat}{e5:Nat→α→Prop}{i:Nat}(bn:α)(hi:i<n)(af:e5 (i+1) bn)(hw:iz ob st (S (i+1) bn)):bO ob (yw S n e5) (n-i) Q .normal st:=⟨n-(i+1),_,by omega,hw,i+1,bn,by omega,rfl,af,rfl⟩
def AT{α:Type}(S:α→bp)(mx:α→Nat)(e5:α→Prop)(k:Nat)(st:bp):Prop:= ∃a,k=mx a∧e5 a∧st=S a
theorem n3(S:α→bp)(mx:α→Nat)(e5:α→Prop)(a0:α)(hw:iz ob st (S a0))(bq:e5 a0)
  (jt:∀a,e5 a→(∀j,ef (get j (S a).t))→c0 P ob c (bO ob (AT S mx e5) (mx a) Q) (S a)):c0 P ob (.loop c) Q st:=by
 refine tF (AT S mx e5) (mx a0) _ hw ⟨a0,rfl,bq,rfl⟩ ?_;rintro k s ⟨a,rfl,af,rfl⟩ ae _;exact jt a af ae
theorem bO.whl{S:α→bp}{mx:α→Nat}{e5:α→Prop}{k:Nat}(bn:α)(hm:mx bn<k)(af:e5 bn)(hw:iz ob st (S bn)):bO ob (AT S mx e5) k Q .normal st:=⟨mx bn,_,hm,hw,bn,rfl,af,rfl⟩
end
theorem hd{p:Prop}(h:p:=by(try simp[*]);(repeat' first|with_reducible refine aj ?_|with_reducible refine aE (by assumption) ?_|with_reducible refine aF (by assumption) ?_|simp[*]);(all_goals first|exact bO.rng () (by assumption) (by first|assumption|trivial) bV|exact bO.rng _ (by assumption) (by assumption) bV)):p:=h
end Go.Pv
namespace Go.Pv
open Go Go.RowKit
def lV(s:cE)(n:Nat)(k:aD):Prop:=inObs s k∨ ∃m,m<n∧k= .loc m
@[simp] theorem Us(s:cE)(n m:Nat)(hm:m<n):lV s n (.loc m):= .inr ⟨m,hm,rfl⟩
theorem zV{s:cE}{n:Nat}{l:List ah}(h:aG (inObs s) l):aG (lV s n) l:=jH (fun _ h=>.inl h) l h
theorem xT{s ai:cE}(e9:Same s ai){n:Nat}{k:aD}(h:lV ai n k):¬fresh n (cW s) k:=by
 rcases h with h|⟨m,hm,rfl⟩
 ·exact fun aH=>aH.2 (sS ((e9.inObs k).2 h))
 ·intro aH;have:=aH.1;simp at this;omega
theorem iz.obL{s ai:cE}(eO:dT ai)(e9:Same s ai){st:bp}{dG:List (Nat×ah)}{L:List (aD×List ah)}{n:Nat}(aL:∀x∈dG,get x.1 st.t=x.2∧aB (lV ai n) x.2)(jo:∀x∈L,look x.1 st.b=some x.2∧lV ai n x.1∧aG (lV ai n) x.2)
  (ae:∀k cs,look k ai.b=some cs→look k st.b=some cs) (he:∀k o,look k ai.e=some o→look k st.e=some o):iz (cW s) st ⟨dG,L++ai.b,ai.e,n,cW s⟩:=by
 refine⟨fun x ad=>⟨(aL x ad).1,vJ (fun k ab=>xT e9 ab) _ (aL x ad).2⟩,fun k cs ab=>?_,fun k o av=>?_,fun m hm=>hm⟩
 ·simp only at ab;rw[cD]at ab;cases ar:look k L with
  |some x=>rw[ar]at ab;simp only[dE]at ab;subst ab;obtain⟨J,U,ao⟩:=jo _ (sN ar);exact⟨J,xT e9 U,jH (fun k ab=>xT e9 ab) _ ao⟩
  |none=>rw[ar]at ab;exact⟨ae k cs ab,xT e9 (.inl (.inl (by simp[ab]))),jH (fun k ab=>xT e9 (.inl ab)) _ (eO.kb k cs ab)⟩
 ·exact⟨he k o av,xT e9 (.inl (.inr (by simp at av;simp[av]))),fun xs ad=>jH (fun k ab=>xT e9 (.inl ab)) _ (eO.ke k o av xs ad)⟩
def hb{α:Type}(l:List α)(i j:Nat):List α:=match l[i]?,l[j]? with
 |some x,some y=>(l.set i y).set j x
 |_,_=>l
section
variable {α:Type}
@[simp] theorem agu(l:List α)(i j:Nat):(hb l i j).length=l.length:=by unfold hb;split<;>simp
theorem zM(l:List α)(i j k:Nat)(hi:i<l.length)(af:j<l.length):(hb l i j)[k]? =if k=i then l[j]? else if k=j then l[i]? else l[k]?:=by
 unfold hb;rw[cf hi,cf af];simp only[List.getElem?_set,List.length_set];by_cases J:j=k
 ·subst J;by_cases U:j=i
  ·subst U;simp[hi]
  ·simp[U,af]
 ·by_cases U:i=k
  ·subst U;simp[J,hi]
  ·simp[J,U,kL J,kL U]
theorem T0(l:List α)(i j:Nat):(hb l i j).Perm l:=by
 unfold hb;split
 ·rename_i x y ad aM;obtain⟨hi,rfl⟩:=fw.1 ad;obtain⟨af,rfl⟩:=fw.1 aM;exact List.set_set_perm hi af
 ·exact .refl _
inductive gk (a b:Nat):List α→List α→Prop
 |refl (l:List α):gk a b l l
 |step {l m:List α} {i j:Nat}:gk a b l m→a≤i→i<b→a≤j→j<b→i<m.length→j<m.length→gk a b l (hb m i j)
theorem gk.length{a b:Nat}{l m:List α}(h:gk a b l m):m.length=l.length:=by
 induction h with
 |refl=>rfl
 |step _ _ _ _ _ _ _ bN=>rw[agu,bN]
theorem gk.perm{a b:Nat}{l m:List α}(h:gk a b l m):m.Perm l:=by
 induction h with
 |refl=>exact .refl _
 |step _ _ _ _ _ _ _ bN=>exact(T0 _ _ _).trans bN
theorem gk.out{a b:Nat}{l m:List α}(h:gk a b l m)(k:Nat)(ab:k<a∨b≤k):m[k]? =l[k]?:=by
 induction h with
 |refl=>rfl
 |step _ J U ao a7 bZ c6 bN=>rw[zM _ _ _ _ bZ c6,if_neg (by omega),if_neg (by omega)];exact bN
theorem gk.all{a b:Nat}{l m:List α}(h:gk a b l m)(p:α→Prop)(bH:∀k x,a≤k→k<b→l[k]? =some x→p x):∀k x,a≤k→k<b→m[k]? =some x→p x:=by
 induction h with
 |refl=>exact bH
 |step _ J U ao a7 bZ c6 bN=>
  intro k x gm kS ad;rw[zM _ _ _ _ bZ c6]at ad;split at ad
  ·exact bN _ _ ao a7 ad
  ·split at ad
   ·exact bN _ _ J U ad
   ·exact bN _ _ gm kS ad
theorem gk.trans{a b:Nat}{l m r:List α}(h:gk a b l m)(cr:gk a b m r):gk a b l r:=by
 induction cr with
 |refl=>exact h
 |step _ J U ao a7 bZ c6 bN=>exact .step bN J U ao a7 bZ c6
theorem gk.mono{a b bn b2:Nat}{l m:List α}(h:gk a b l m)(bD:bn≤a)(ae:b≤b2):gk bn b2 l m:=by
 induction h with
 |refl=>exact .refl _
 |step _ J U ao a7 bZ c6 bN=>exact .step bN (by omega) (by omega) (by omega) (by omega) bZ c6
def e7(lt:α→α→Bool)(a b:Nat)(l:List α):Prop:= ∀i j x y,a≤i→i<j→j<b→l[i]? =some x→l[j]? =some y→lt y x=false
structure p9 (lt:α→α→Bool):Prop where
 asym:∀x y,lt x y=true→lt y x=false
 ntr:∀x y z,lt y x=false→lt z y=false→lt z x=false
theorem e7.pairwise{lt:α→α→Bool}{l:List α}(h:e7 lt 0 l.length l):l.Pairwise fun x y=>lt y x=false:=by rw[pt];intro i j hi af lN;exact h i j _ _ (by omega) lN af (cf hi) (cf af)
def hO(a m b k:Nat):Nat:=if k<a then k else if k<a+(b-m)then k+(m-a)else if k<b then k-(b-m)else k
def rR(a b c k:Nat):Nat:=if a≤k∧k<a+c then b+(k-a)else if b≤k∧k<b+c then a+(k-b)else k
end
theorem EH(i j:Nat)(h:i+j≤1099511627776):IntKind.i64.wrap (Int.fdiv (hj.wrap ((i:Int)+j)) (2 ^ (min 1 hj.bits)))=((i+j)/2:Nat):=by
 have hw:hj.wrap ((i:Int)+j)=i+j:=by simp[r2,nO,r1];omega
 have Jc:hj.bits=64:=rfl;rw[hw,Jc,show(2:Int) ^ (min 1 64)=2 from by decide,Int.fdiv_eq_ediv_of_nonneg _ (by omega),oF]
 ·omega
 ·omega
end Go.Pv
namespace Go.Pv
open Go
inductive bJ where
 |mk (kind n:Int) (name:List dz) (args:List bJ)
def bJ.kind:bJ→Int| .mk k _ _ _=>k
def bJ.num:bJ→Int| .mk _ n _ _=>n
def bJ.name:bJ→List dz| .mk _ _ s _=>s
def bJ.args:bJ→List bJ| .mk _ _ _ a=>a
mutual
def enc:bJ→ah
 | .mk k n s a=>.agg [.int .i64 k,.int .i64 n,.str s,.slice 4 .no (o0 a)]
def o0:List bJ→List ah
 |[]=>[]
 |x::xs=>enc x::o0 xs
end
theorem Em:∀l,o0 l=l.map enc
 |[]=>rfl
 |x::xs=>by simp[o0,Em xs]
theorem u6(t:bJ):enc t= .agg [.int .i64 t.kind,.int .i64 t.num,.str t.name,.slice 4 .no (t.args.map enc)]:=by cases t;simp[enc,Em,bJ.kind,bJ.num,bJ.name,bJ.args]
mutual
theorem TJ(S:aD→Prop):∀t:bJ,aB S (enc t)
 | .mk k n s a=>by simp[enc,aB,aG,Kh S a]
theorem Kh(S:aD→Prop):∀l:List bJ,aG S (o0 l)
 |[]=>by simp[o0,aG]
 |x::xs=>by simp[o0,aG,TJ S x,Kh S xs]
end
mutual
theorem Wu:∀t:bJ,dm (enc t)=enc t
 | .mk k n s a=>by simp[enc,dm,cY,Mk a]
theorem Mk:∀l:List bJ,cY (o0 l)=o0 l
 |[]=>by simp[o0,cY]
 |x::xs=>by simp[o0,cY,Wu x,Mk xs]
end
@[simp] theorem ap2(S:aD→Prop)(t:bJ):aB S (enc t)=True:=eq_true (TJ S t)
@[simp] theorem apN(S:aD→Prop)(l:List bJ):aG S (l.map enc)=True:=by rw[←Em];exact eq_true (Kh S l)
theorem als(l:List bJ):cY (l.map enc)=l.map enc:=by rw[←Em];exact Mk l
attribute [simp] Wu als
@[simp] theorem asf(t:bJ):dY (enc t)=true:=by rw[u6];rfl
@[simp] theorem an5(t:bJ):cells (enc t)=[.int .i64 t.kind,.int .i64 t.num,.str t.name,.slice 4 .no (t.args.map enc)]:=by rw[u6];rfl
@[simp] theorem anH(t:bJ):ah.agg [.int .i64 t.kind,.int .i64 t.num,.str t.name,.slice 4 .no (t.args.map enc)]=enc t:=(u6 t).symm
@[simp] theorem aoL(off:Nat)(e2:Bool)(sz:Nat)(t:bJ):q2 off e2 sz (enc t)=if e2 then some (off+sz≤4,.agg (([.int .i64 t.kind,.int .i64 t.num,.str t.name,.slice 4 .no (t.args.map enc)].drop off).take sz))else(([.int .i64 t.kind,.int .i64 t.num,.str t.name,.slice 4 .no (t.args.map enc)]:List ah)[off]?).map fun p=>(True,p):=by rw[u6];rfl
@[simp] theorem aoB(off:Nat)(e2:Bool)(sz:Nat)(t:bJ):pF off e2 sz (.eptr (enc t))=if e2 then some (off+sz≤4,.eptr (.agg (([.int .i64 t.kind,.int .i64 t.num,.str t.name,.slice 4 .no (t.args.map enc)].drop off).take sz)))else(([.int .i64 t.kind,.int .i64 t.num,.str t.name,.slice 4 .no (t.args.map enc)]:List ah)[off]?).map fun p=>(dY p=true∧cells p=[p],.eptr p):=by rw[u6];rfl
@[simp] theorem apv(t:bJ):Pv.isAgg 4 (enc t):=by rw[u6];exact⟨_,rfl,rfl⟩
inductive T where
 |nil
 |var (n:Int)
 |sym (s:List dz)
 |num (n:Int)
 |pair (a b:T)
 deriving DecidableEq,Inhabited
def T.tm:T→bJ
 | .nil=>.mk 0 0 [] []
 | .var n=>.mk 1 n [] []
 | .sym s=>.mk 2 0 s []
 | .num n=>.mk 3 n [] []
 | .pair a b=>.mk 4 0 [] [a.tm,b.tm]
def T.e:T→ah
 | .nil=>.agg [.int .i64 0,.int .i64 0,.str [],.slice 4 .no []]
 | .var n=>.agg [.int .i64 1,.int .i64 n,.str [],.slice 4 .no []]
 | .sym s=>.agg [.int .i64 2,.int .i64 0,.str s,.slice 4 .no []]
 | .num n=>.agg [.int .i64 3,.int .i64 n,.str [],.slice 4 .no []]
 | .pair a b=>.agg [.int .i64 4,.int .i64 0,.str [],.slice 4 .no [a.e,b.e]]
theorem tC:∀t:T,enc t.tm=t.e
 | .nil| .var _| .sym _| .num _=>rfl
 | .pair a b=>by simp[T.tm,enc,o0,T.e,tC a,tC b]
def T.kind:T→Int
 | .nil=>0| .var _=>1| .sym _=>2| .num _=>3| .pair _ _=>4
def T.int:T→Int
 | .var n=>n| .num n=>n|_=>0
def T.name:T→List dz
 | .sym s=>s|_=>[]
def T.args:T→List T
 | .pair a b=>[a,b]|_=>[]
theorem T.e_eq(t:T):t.e= .agg [.int .i64 t.kind,.int .i64 t.int,.str t.name,.slice 4 .no (t.args.map T.e)]:=by cases t<;>rfl
@[simp] theorem anG(t:T):ah.agg [.int .i64 t.kind,.int .i64 t.int,.str t.name,.slice 4 .no (t.args.map T.e)]=t.e:=(T.e_eq t).symm
@[simp] theorem anI:ah.agg [.int .i64 0,.int .i64 0,.str [],.slice 4 .no []]=T.nil.e:=rfl
@[simp] theorem anM(n:Int):ah.agg [.int .i64 1,.int .i64 n,.str [],.slice 4 .no []]=(T.var n).e:=rfl
@[simp] theorem anL(s:List dz):ah.agg [.int .i64 2,.int .i64 0,.str s,.slice 4 .no []]=(T.sym s).e:=rfl
@[simp] theorem anJ(n:Int):ah.agg [.int .i64 3,.int .i64 n,.str [],.slice 4 .no []]=(T.num n).e:=rfl
@[simp] theorem anK(a b:T):ah.agg [.int .i64 4,.int .i64 0,.str [],.slice 4 .no [a.e,b.e]]=(T.pair a b).e:=rfl
@[simp] theorem aoK(off:Nat)(e2:Bool)(sz:Nat)(t:T):q2 off e2 sz t.e=if e2 then some (off+sz≤4,.agg (([.int .i64 t.kind,.int .i64 t.int,.str t.name,.slice 4 .no (t.args.map T.e)].drop off).take sz))else(([.int .i64 t.kind,.int .i64 t.int,.str t.name,.slice 4 .no (t.args.map T.e)]:List ah)[off]?).map fun p=>(True,p):=by rw[T.e_eq];rfl
@[simp] theorem aoA(off:Nat)(e2:Bool)(sz:Nat)(t:T):pF off e2 sz (.eptr t.e)=if e2 then some (off+sz≤4,.eptr (.agg (([.int .i64 t.kind,.int .i64 t.int,.str t.name,.slice 4 .no (t.args.map T.e)].drop off).take sz)))else(([.int .i64 t.kind,.int .i64 t.int,.str t.name,.slice 4 .no (t.args.map T.e)]:List ah)[off]?).map fun p=>(dY p=true∧cells p=[p],.eptr p):=by rw[T.e_eq];rfl
@[simp] theorem aga:(T.nil).kind=0:=rfl
@[simp] theorem afE:(T.nil).int=0:=rfl
@[simp] theorem ag5:(T.nil).name=[]:=rfl
@[simp] theorem Yo:(T.nil).args=[]:=rfl
@[simp] theorem agf(n:Int):(T.var n).kind=1:=rfl
@[simp] theorem afI(n:Int):(T.var n).int=n:=rfl
@[simp] theorem aha(n:Int):(T.var n).name=[]:=rfl
@[simp] theorem Ys(n:Int):(T.var n).args=[]:=rfl
@[simp] theorem age(s:List dz):(T.sym s).kind=2:=rfl
@[simp] theorem afH(s:List dz):(T.sym s).int=0:=rfl
@[simp] theorem ag9(s:List dz):(T.sym s).name=s:=rfl
@[simp] theorem Yr(s:List dz):(T.sym s).args=[]:=rfl
@[simp] theorem agb(n:Int):(T.num n).kind=3:=rfl
@[simp] theorem afF(n:Int):(T.num n).int=n:=rfl
@[simp] theorem ag6(n:Int):(T.num n).name=[]:=rfl
@[simp] theorem Yp(n:Int):(T.num n).args=[]:=rfl
@[simp] theorem agc(a b:T):(T.pair a b).kind=4:=rfl
@[simp] theorem afG(a b:T):(T.pair a b).int=0:=rfl
@[simp] theorem ag7(a b:T):(T.pair a b).name=[]:=rfl
@[simp] theorem Yq(a b:T):(T.pair a b).args=[a,b]:=rfl
@[simp] theorem ap1(S:aD→Prop)(t:T):aB S t.e=True:=by rw[←tC];simp
@[simp] theorem asI(t:T):dm t.e=t.e:=by rw[←tC];simp
theorem TB(S:aD→Prop):∀l:List T,aG S (l.map T.e)
 |[]=>by simp[aG]
 |x::xs=>by simp[aG,TB S xs]
@[simp] theorem TA(S:aD→Prop)(l:List T):aG S (l.map T.e)=True:=eq_true (TB S l)
@[simp] theorem alr:∀l:List T,cY (l.map T.e)=l.map T.e
 |[]=>rfl
 |x::xs=>by simp[cY,alr xs]
@[simp] theorem ase(t:T):dY t.e=true:=by rw[T.e_eq];rfl
@[simp] theorem an4(t:T):cells t.e=[.int .i64 t.kind,.int .i64 t.int,.str t.name,.slice 4 .no (t.args.map T.e)]:=by rw[T.e_eq];rfl
@[simp] theorem apu(t:T):Pv.isAgg 4 t.e:=by rw[T.e_eq];exact⟨_,rfl,rfl⟩
def T.size:T→Nat
 | .pair a b=>1+a.size+b.size
 |_=>1
theorem T.size_pos(t:T):1≤t.size:=by cases t<;>simp[T.size]<;>omega
def low(b:dz):Bool:=decide (97≤b.toNat∧b.toNat≤122)
def mg(b:dz):Bool:=low b||decide (48≤b.toNat∧b.toNat≤57)||b.toNat==45
def jv(s:List dz):Bool:=decide (1≤s.length∧s.length≤12)&&low (s.getD 0 0)&&(s.drop 1).all mg
def T.ok:T→Bool
 | .nil=>true
 | .var n=>decide (0≤n∧n≤100000)
 | .sym s=>jv s
 | .num n=>decide (-1000000000≤n∧n≤1000000000)
 | .pair a b=>a.ok&&b.ok
def kY(k n:Int)(s:List dz):Bool:=if k=0 then n==0&&s==[]else if k=1 then decide (0≤n∧n≤100000)&&s==[]else if k=2 then n==0&&jv s else if k=3 then decide (-1000000000≤n∧n≤1000000000)&&s==[]else false
def fs:bJ→Int→Int
 | .mk k n s [a,b],room=>if room<1∨k≠4∨n≠0∨s≠[]then-1 else if fs a (room-1)<0 then-1 else if fs b (room-1-fs a (room-1))<0 then-1 else 1+fs a (room-1)+fs b (room-1-fs a (room-1))
 | .mk k n s args,room=>if room<1∨k=4∨args≠[]∨kY k n s=false then-1 else 1
theorem KR(k n:Int)(s:List dz)(args:List bJ)(room:Int):fs (.mk k n s args) room=if room<1 then-1 else if k≠4 then(if args≠[]then-1 else if kY k n s then 1 else-1)else if n≠0∨s≠[]then-1 else match args with
  |[a,b]=>if fs a (room-1)<0 then-1 else if fs b (room-1-fs a (room-1))<0 then-1 else 1+fs a (room-1)+fs b (room-1-fs a (room-1))
  |_=> -1:=by
 match args with
 |[]=>simp only[fs];by_cases J:room<1<;>by_cases U:k=4<;>by_cases ao:kY k n s=true<;>simp[J,U,ao]
 |[a]=>simp[fs]
 |[a,b]=>simp only[fs];by_cases J:room<1<;>by_cases U:k=4<;>simp[J,U]
 |a::b::c::r=>simp[fs]
theorem FT:∀(t:T) (room:Int),fs t.tm room=if t.ok=true∧(t.size:Int)≤room then(t.size:Int)else-1
 | .nil,room=>by simp[T.tm,fs,T.ok,T.size,kY];split<;>rename_i h<;>simp_all<;>omega
 | .var n,room=>by simp[T.tm,fs,T.ok,T.size,kY];split<;>split<;>simp_all<;>omega
 | .sym s,room=>by simp[T.tm,fs,T.ok,T.size,kY];by_cases J:room<1<;>by_cases U:jv s=true<;>simp[J,U]<;>omega
 | .num n,room=>by simp[T.tm,fs,T.ok,T.size,kY];split<;>split<;>simp_all<;>omega
 | .pair a b,room=>by
  have bD:=a.size_pos;have ae:=b.size_pos;simp only[T.tm,fs,FT a,FT b,T.ok,T.size,cA];by_cases J:room<1
  ·simp[J];omega
  ·by_cases U:a.ok=true∧(a.size:Int)≤room-1
   ·rw[if_pos U];by_cases ao:b.ok=true∧(b.size:Int)≤room-1-a.size
    ·rw[if_pos ao];simp[J,U.1,ao.1];split<;>omega
    ·rw[if_neg ao];simp[J,U.1];intro lh;have:=ao;simp[lh]at this;omega
   ·rw[if_neg U];simp[J];intro kR;have:=U;simp[kR]at this;omega
theorem CF:∀(t:bJ) (room:Int),fs t room= -1∨1≤fs t room
 | .mk k n s [a,b],room=>by
  simp only[fs];split
  ·exact .inl rfl
  ·split
   ·exact .inl rfl
   ·split
    ·exact .inl rfl
    ·right;omega
 | .mk k n s [],room=>by simp only[fs];split<;>simp
 | .mk k n s [a],room=>by simp[fs]
 | .mk k n s (a::b::c::r),room=>by simp[fs]
theorem KT:∀(t:bJ) (room:Int),0<fs t room→∃x:T,x.tm=t
 | .mk k n s [a,b],room,h=>by
  simp only[fs]at h;split at h
  ·omega
  ·rename_i J;simp only[not_or,Int.not_lt,ne_eq,asY]at J;obtain⟨J,rfl,rfl,rfl⟩:=J;split at h
   ·omega
   ·split at h
    ·omega
    ·obtain⟨x,rfl⟩:=KT a (room-1) (by rcases CF a (room-1)with h|h<;>omega);obtain⟨y,rfl⟩:=KT b (room-1-fs x.tm (room-1)) (by rcases CF b (room-1-fs x.tm (room-1))with h|h<;>omega);exact⟨.pair x y,rfl⟩
 | .mk k n s [],room,h=>by
  simp only[fs]at h;split at h
  ·omega
  ·rename_i J;simp only[not_or,ne_eq,not_true_eq_false,not_false_eq_true,true_and,Bool.not_eq_false]at J;obtain⟨_,_,J⟩:=J;unfold kY at J;split at J
   ·rename_i e;subst e;simp at J;obtain⟨rfl,rfl⟩:=J;exact⟨.nil,rfl⟩
   ·split at J
    ·rename_i e;subst e;simp at J;obtain⟨_,rfl⟩:=J;exact⟨.var n,rfl⟩
    ·split at J
     ·rename_i e;subst e;simp at J;obtain⟨rfl,_⟩:=J;exact⟨.sym s,rfl⟩
     ·split at J
      ·rename_i e;subst e;simp at J;obtain⟨_,rfl⟩:=J;exact⟨.num n,rfl⟩
      ·cases J
 | .mk k n s [a],room,h=>by simp[fs]at h
 | .mk k n s (a::b::c::r),room,h=>by simp[fs]at h
theorem KS:∀(t:bJ) (room:Int),fs t room≤room∨fs t room= -1
 | .mk k n s [a,b],room=>by
  simp only[fs];split
  ·exact .inr rfl
  ·split
   ·exact .inr rfl
   ·split
    ·exact .inr rfl
    ·rcases KS b (room-1-fs a (room-1))with h|h<;>omega
 | .mk k n s [],room=>by simp only[fs];split<;>simp;rename_i h;omega
 | .mk k n s [a],room=>by simp[fs]
 | .mk k n s (a::b::c::r),room=>by simp[fs]
mutual
def bJ.sz:bJ→Nat
 | .mk _ _ _ a=>1+bJ.szL a
def bJ.szL:List bJ→Nat
 |[]=>0
 |x::xs=>x.sz+bJ.szL xs
end
theorem szL_mem:∀{l:List bJ} {x:bJ},x∈l→x.sz≤bJ.szL l
 |y::l,x,h=>by
  rcases fK.1 h with rfl|h
  ·simp[bJ.szL]
  ·have:=szL_mem h;simp[bJ.szL];omega
theorem Mt{t x:bJ}(h:x∈t.args):x.sz<t.sz:=by cases t;simp[bJ.args]at h;have:=szL_mem h;simp[bJ.sz];omega
def T.fit(t:T):Bool:=t.ok&&decide (t.size≤5000)
def bJ.fits(t:bJ):Bool:=decide (0<fs t 5000)
theorem bJ.fits_T(t:T):t.tm.fits=t.fit:=by
 unfold bJ.fits T.fit;rw[FT];have:=t.size_pos;by_cases J:t.ok=true<;>by_cases U:t.size≤5000
 ·rw[if_pos ⟨J,by omega⟩];simp[J,U];omega
 ·rw[if_neg (by omega)];simp[U]
 ·rw[if_neg (by simp[J])];simp[J]
 ·rw[if_neg (by simp[J])];simp[J]
theorem bJ.fits_ex{t:bJ}(h:t.fits=true):∃x:T,x.tm=t∧x.fit=true:=by obtain⟨x,rfl⟩:=KT t 5000 (by simpa[bJ.fits]using h);exact⟨x,rfl,by rw[←bJ.fits_T];exact h⟩
structure au where
 v:Int
 t:T
 deriving DecidableEq,Inhabited
def au.e(b:au):ah:= .agg [.int .i64 b.v,.int .i64 b.t.kind,.int .i64 b.t.int,.str b.t.name,.slice 4 .no (b.t.args.map T.e)]
@[simp] theorem au.eta(b:au):au.mk b.v b.t=b:=rfl
@[simp] theorem Np(v:Int)(t:T):ah.agg [.int .i64 v,.int .i64 t.kind,.int .i64 t.int,.str t.name,.slice 4 .no (t.args.map T.e)]=(au.mk v t).e:=rfl
@[simp] theorem anB(v:Int):ah.agg [.int .i64 v,.int .i64 0,.int .i64 0,.str [],.slice 4 .no []]=(au.mk v .nil).e:=rfl
@[simp] theorem anF(v n:Int):ah.agg [.int .i64 v,.int .i64 1,.int .i64 n,.str [],.slice 4 .no []]=(au.mk v (.var n)).e:=rfl
@[simp] theorem anE(v:Int)(s:List dz):ah.agg [.int .i64 v,.int .i64 2,.int .i64 0,.str s,.slice 4 .no []]=(au.mk v (.sym s)).e:=rfl
@[simp] theorem anC(v n:Int):ah.agg [.int .i64 v,.int .i64 3,.int .i64 n,.str [],.slice 4 .no []]=(au.mk v (.num n)).e:=rfl
@[simp] theorem anD(v:Int)(a b:T):ah.agg [.int .i64 v,.int .i64 4,.int .i64 0,.str [],.slice 4 .no [a.e,b.e]]=(au.mk v (.pair a b)).e:=rfl
@[simp] theorem apU(S:aD→Prop)(b:au):aB S b.e=True:=by simp[au.e,-Np]
@[simp] theorem asB(b:au):dm b.e=b.e:=by simp[au.e,-Np]
theorem Tx(S:aD→Prop):∀l:List au,aG S (l.map au.e)
 |[]=>by simp[aG]
 |x::xs=>by simp[aG,Tx S xs]
@[simp] theorem apJ(S:aD→Prop)(l:List au):aG S (l.map au.e)=True:=eq_true (Tx S l)
@[simp] theorem Wt:∀l:List au,cY (l.map au.e)=l.map au.e
 |[]=>rfl
 |x::xs=>by simp[cY,Wt xs]
@[simp] theorem ar3(b:au):dY b.e=true:=rfl
@[simp] theorem anW(b:au):cells b.e=[.int .i64 b.v,.int .i64 b.t.kind,.int .i64 b.t.int,.str b.t.name,.slice 4 .no (b.t.args.map T.e)]:=rfl
@[simp] theorem apr(b:au):Pv.isAgg 5 b.e:=⟨_,rfl,rfl⟩
@[simp] theorem aoI(off:Nat)(e2:Bool)(sz:Nat)(b:au):q2 off e2 sz b.e=if e2 then some (off+sz≤5,.agg (([.int .i64 b.v,.int .i64 b.t.kind,.int .i64 b.t.int,.str b.t.name,.slice 4 .no (b.t.args.map T.e)].drop off).take sz))else(([.int .i64 b.v,.int .i64 b.t.kind,.int .i64 b.t.int,.str b.t.name,.slice 4 .no (b.t.args.map T.e)]:List ah)[off]?).map fun p=>(True,p):=rfl
@[simp] theorem aoy(off:Nat)(e2:Bool)(sz:Nat)(b:au):pF off e2 sz (.eptr b.e)=if e2 then some (off+sz≤5,.eptr (.agg (([.int .i64 b.v,.int .i64 b.t.kind,.int .i64 b.t.int,.str b.t.name,.slice 4 .no (b.t.args.map T.e)].drop off).take sz)))else(([.int .i64 b.v,.int .i64 b.t.kind,.int .i64 b.t.int,.str b.t.name,.slice 4 .no (b.t.args.map T.e)]:List ah)[off]?).map fun p=>(dY p=true∧cells p=[p],.eptr p):=rfl
def T.occ(v:Int):T→Bool
 | .var n=>n==v
 | .pair a b=>a.occ v||b.occ v
 |_=>false
def ey(a b:Int):Int:=if a<b then-1 else if b<a then 1 else 0
def kp(a b:List dz):Int:=if a=b then 0 else if hr a b then-1 else 1
def er:T→T→Int
 | .pair a b,.pair c d=>if er a c=0 then er b d else er a c
 |x,y=>if x.kind≠y.kind then ey x.kind y.kind else if x.int≠y.int then ey x.int y.int else kp x.name y.name
structure cX where
 v:Int
 t:bJ
def cX.e(b:cX):ah:= .agg [.int .i64 b.v,.int .i64 b.t.kind,.int .i64 b.t.num,.str b.t.name,.slice 4 .no (b.t.args.map enc)]
def au.b(b:au):cX:=⟨b.v,b.t.tm⟩
theorem au.b_e(b:au):b.b.e=b.e:=by obtain⟨v,t⟩:=b;cases t<;>simp only[au.b,cX.e,au.e,T.tm,bJ.kind,bJ.num,bJ.name,bJ.args,tC,aga,agf,age,agb,agc,afE,afI,afH,afF,afG,ag5,aha,ag9,ag6,ag7,Yo,Ys,Yr,Yp,Yq,gM,mz]
@[simp] theorem cX.eta(b:cX):cX.mk b.v b.t=b:=rfl
@[simp] theorem Nq(v:Int)(t:bJ):ah.agg [.int .i64 v,.int .i64 t.kind,.int .i64 t.num,.str t.name,.slice 4 .no (t.args.map enc)]=(cX.mk v t).e:=rfl
@[simp] theorem apW(S:aD→Prop)(b:cX):aB S b.e=True:=by simp[cX.e,-Nq]
@[simp] theorem asD(b:cX):dm b.e=b.e:=by simp[cX.e,-Nq]
theorem Tz(S:aD→Prop):∀l:List cX,aG S (l.map cX.e)
 |[]=>by simp[aG]
 |x::xs=>by simp[aG,Tz S xs]
@[simp] theorem apL(S:aD→Prop)(l:List cX):aG S (l.map cX.e)=True:=eq_true (Tz S l)
@[simp] theorem alq:∀l:List cX,cY (l.map cX.e)=l.map cX.e
 |[]=>rfl
 |x::xs=>by simp[cY,alq xs]
@[simp] theorem ar6(b:cX):dY b.e=true:=rfl
@[simp] theorem anZ(b:cX):cells b.e=[.int .i64 b.v,.int .i64 b.t.kind,.int .i64 b.t.num,.str b.t.name,.slice 4 .no (b.t.args.map enc)]:=rfl
@[simp] theorem apt(b:cX):Pv.isAgg 5 b.e:=⟨_,rfl,rfl⟩
@[simp] theorem aoJ(off:Nat)(e2:Bool)(sz:Nat)(b:cX):q2 off e2 sz b.e=if e2 then some (off+sz≤5,.agg (([.int .i64 b.v,.int .i64 b.t.kind,.int .i64 b.t.num,.str b.t.name,.slice 4 .no (b.t.args.map enc)].drop off).take sz))else(([.int .i64 b.v,.int .i64 b.t.kind,.int .i64 b.t.num,.str b.t.name,.slice 4 .no (b.t.args.map enc)]:List ah)[off]?).map fun p=>(True,p):=rfl
@[simp] theorem aoz(off:Nat)(e2:Bool)(sz:Nat)(b:cX):pF off e2 sz (.eptr b.e)=if e2 then some (off+sz≤5,.eptr (.agg (([.int .i64 b.v,.int .i64 b.t.kind,.int .i64 b.t.num,.str b.t.name,.slice 4 .no (b.t.args.map enc)].drop off).take sz)))else(([.int .i64 b.v,.int .i64 b.t.kind,.int .i64 b.t.num,.str b.t.name,.slice 4 .no (b.t.args.map enc)]:List ah)[off]?).map fun p=>(dY p=true∧cells p=[p],.eptr p):=rfl
def zX(l:List cX)(i:Nat):Prop:= ∀b,l[i]? =some b→(0≤b.v∧b.v≤100000)∧(∀c,0<i→l[i-1]? =some c→c.v<b.v)∧b.t.fits=true
def yA(l:List cX):Prop:=l.length≤400∧∀i,i<l.length→zX l i
theorem qB:∀a b:T,er a b=0↔a=b
 | .pair a b,.pair c d=>by
  simp only[er,T.pair.injEq];split
  ·rename_i h;rw[qB b d,←qB a c];simp[h]
  ·rename_i h;simp[h,←qB a c]
 | .nil,y=>by cases y<;>simp[er,ey,kp]
 | .var n,y=>by cases y<;>simp[er,ey,kp]<;>omega
 | .sym s,y=>by cases y<;>simp[er,ey,kp];rename_i ai;by_cases h:s=ai<;>simp[h];by_cases U:hr s ai=true<;>simp[U]
 | .num n,y=>by cases y<;>simp[er,ey,kp]<;>omega
 | .pair a b,.nil| .pair a b,.var _| .pair a b,.sym _| .pair a b,.num _=>by simp[er,ey]
def T.sub(f:Int→aY T):T→T
 | .var n=>match f n with|some x=>x|none=>.var n
 | .pair a b=>.pair (a.sub f) (b.sub f)
 |t=>t
def k0(f:Int→Int):T→Int
 | .var n=>if 5001<f n then 5001 else f n
 | .pair a b=>if 5000<k0 f a then k0 f a else if 5001<1+k0 f a+k0 f b then 5001 else 1+k0 f a+k0 f b
 |_=>1
theorem GM(f:Int→Int)(aH:∀v,-1≤f v):∀t,-1≤k0 f t∧k0 f t≤5001
 | .var n=>by have:=aH n;simp only[k0];split<;>omega
 | .pair a b=>by have:=GM f aH a;have:=GM f aH b;simp only[k0];split<;>(try split)<;>omega
 | .nil| .sym _| .num _=>by simp[k0]
def df(l:List au)(v:Int):aY T:=(l.find? fun b=>b.v==v).map (·.t)
end Go.Pv
namespace Go.Pv
open Go
structure jk {α:Type} (c:α→α→Int):Prop where
 neg:∀a b,c b a= -c a b
 tr:∀a b d,c a b≤0→c b d≤0→c a d≤0
 zero:∀a b,c a b=0↔a=b
section
variable {α:Type} {c:α→α→Int}
def hG(c:α→α→Int)(a b:α):Bool:=decide (c a b<0)
theorem jk.ltOk(h:jk c):p9 (hG c):=by
 refine⟨fun x y hL=>?_,fun x y z J U=>?_⟩
 ·simp only[hG,fm,gr]at hL⊢;rw[h.neg x y];omega
 ·simp only[hG,gr]at J U⊢;have ak:=h.neg x y;have aC:=h.neg y z;have bj:=h.neg x z;have:=h.tr x y z (by omega) (by omega);omega
theorem jk.refl(h:jk c)(a:α):c a a=0:=(h.zero a a).2 rfl
theorem jk.ltr(h:jk c){a b d:α}(J:c a b<0)(U:c b d≤0):c a d<0:=by
 have ao:=h.tr a b d (by omega) U;rcases(by omega:c a d<0∨c a d=0)with a7|a7
 ·exact a7
 ·obtain rfl:=(h.zero a d).1 a7;have:=h.neg a b;omega
def oz(c:α→α→Int)(l:List α):List α:=l.mergeSort fun x y=>decide (c x y≤0)
theorem yj(c:α→α→Int)(l:List α):(oz c l).Perm l:=List.mergeSort_perm l _
theorem Mg(h:jk c)(l:List α):(oz c l).Pairwise fun x y=>c x y≤0:=by have:=List.pairwise_mergeSort (le:=fun x y=>decide (c x y≤0)) (fun a b d J U=>by simp at J U⊢;exact h.tr a b d J U) (fun a b=>by simp;have:=h.neg a b;omega) l;exact this.imp (by simp)
theorem Wq(h:jk c){l aX:List α}(bH:aX.Perm l)(ag:aX.Pairwise fun x y=>hG c y x=false):aX=oz c l:=by refine M7 (le:=fun x y=>c x y≤0) (fun x y _ _ J U=>(h.zero x y).1 (by have:=h.neg x y;omega)) (ag.imp fun{x y} hL=>?_) (Mg h l) (bH.trans (yj c l).symm);simp only[hG,gr]at hL;have:=h.neg x y;omega
def cG[DecidableEq α](p:aY α):List α→List α
 |[]=>[]
 |x::r=>if p=some x then cG (some x) r else x::cG (some x) r
def asc[DecidableEq α](c:α→α→Int)(l:List α):List α:=cG none (oz c l)
def hH(c:α→α→Int)(l:List α):Prop:=l.Pairwise fun x y=>c x y<0
variable [DecidableEq α]
theorem If:∀(l:List α) (p:aY α) (x:α),x∈cG p l→x∈l
 |[],_,_,h=>by simp[cG]at h
 |y::r,p,x,h=>by
  simp only[cG]at h;split at h
  ·exact oK _ (If r _ x h)
  ·rcases fK.1 h with rfl|h
   ·simp
   ·exact oK _ (If r _ x h)
theorem KE:∀(l:List α) (p:aY α) (x:α),x∈l→x∈cG p l∨p=some x
 |y::r,p,x,h=>by
  simp only[cG];rcases fK.1 h with rfl|h
  ·split
   ·rename_i U;exact .inr U
   ·simp
  ·split
   ·rename_i U;rcases KE r (some y) x h with ao|ao
    ·exact .inl ao
    ·cases ao;exact .inr U
   ·rcases KE r (some y) x h with ao|ao
    ·exact .inl (oK _ ao)
    ·cases ao;simp
theorem Qo(aw:jk c):∀(l:List α) (p:aY α),l.Pairwise (fun x y=>c x y≤0)→(∀y,p=some y→∀x∈l,c y x≤0)→hH c (cG p l)∧∀y,p=some y→∀x∈cG p l,c y x<0
 |[],p,_,_=>⟨as5,fun y _ x ad=>by simp[cG]at ad⟩
 |z::r,p,h,bH=>by
  obtain⟨J,U⟩:=mA.1 h;have bN:=Qo aw r (some z) U (fun y aM x ad=>by cases aM;exact J x ad);simp only[cG];split
  ·rename_i ao;subst ao;exact bN
  ·rename_i ao;refine⟨mA.2 ⟨fun x ad=>bN.2 z rfl x ad,bN.1⟩,fun y aM x ad=>?_⟩;subst aM;have rv:c y z<0:=by
    have a7:=bH y rfl z (by simp);rcases(by omega:c y z<0∨c y z=0)with bZ|bZ
    ·exact bZ
    ·exact absurd (eZ some ((aw.zero y z).1 bZ)) ao
   rcases fK.1 ad with rfl|ad
   ·exact rv
   ·exact aw.ltr rv (by have:=bN.2 z rfl x ad;omega)
theorem HC(aw:jk c)(l:List α):hH c (asc c l):=(Qo aw _ none (Mg aw l) (fun y h=>by cases h)).1
theorem Ua(l:List α)(x:α):x∈asc c l↔x∈l:=by
 constructor
 ·intro h;exact(yj c l).mem_iff.1 (If _ _ _ h)
 ·intro h;rcases KE (oz c l) none x ((yj c l).mem_iff.2 h)with h|h
  ·exact h
  ·cases h
omit [DecidableEq α]in
theorem hH.ext(aw:jk c){l aX:List α}(h:hH c l)(cr:hH c aX)(hm:∀x,x∈l↔x∈aX):l=aX:=by
 have aR:∀{l:List α},hH c l→l.Nodup:=fun{l} h=>h.imp fun{a b} h e=>by subst e;have:=aw.refl a;omega
 refine M7 (le:=fun x y=>c x y≤0) (fun x y _ _ J U=>(aw.zero x y).1 (by have:=aw.neg x y;omega)) (h.imp fun h=>by omega) (cr.imp fun h=>by omega) ?_;exact(List.perm_ext_iff_of_nodup (aR h) (aR cr)).2 hm
omit [DecidableEq α]in
theorem hH.nodup(aw:jk c){l:List α}(h:hH c l):l.Nodup:=h.imp fun{a b} h e=>by subst e;have:=aw.refl a;omega
end
theorem HH:∀a b:List dz,hr a b=true→hr b a=false
 |_,[],h=>by simp[hr]at h
 |[],_::_,_=>by simp[hr]
 |x::a,y::b,h=>by
  simp only[hr,lF,fm,cA,dL]at h;simp only[hr,Bool.or_eq_false_iff,gr,Bool.and_eq_false_iff];rcases h with h|⟨rfl,h⟩
  ·refine⟨fun U=>?_,.inl ?_⟩
   ·rw[UInt8.lt_iff_toNat_lt]at h U;omega
   ·simp;intro e;subst e;rw[UInt8.lt_iff_toNat_lt]at h;omega
  ·exact⟨fun U=>by rw[UInt8.lt_iff_toNat_lt]at U;omega,.inr (HH a b h)⟩
theorem NL:∀a b:List dz,a≠b→hr a b=false→hr b a=true
 |[],[],h,_=>absurd rfl h
 |x::a,[],_,_=>by simp[hr]
 |[],_::_,_,h=>by simp[hr]at h
 |x::a,y::b,cF,h=>by
  simp only[hr,Bool.or_eq_false_iff,gr,Bool.and_eq_false_iff]at h;simp only[hr,lF,fm,cA,dL];by_cases e:x=y
  ·subst e;right;refine⟨rfl,NL a b (fun e=>cF (by rw[e])) ?_⟩;rcases h.2 with U|U
   ·simp at U
   ·exact U
  ·left;have J:=h.1;rw[UInt8.lt_iff_toNat_lt]at J⊢;have:x.toNat≠y.toNat:=fun h=>e (UInt8.toNat_inj.1 h);omega
theorem NK:∀a b d:List dz,hr a b=true→hr b d=true→hr a d=true
 |_,[],_,h,_=>by simp[hr]at h
 |_,_::_,[],_,h=>by simp[hr]at h
 |[],_::_,_::_,_,_=>by simp[hr]
 |x::a,y::b,z::d,J,U=>by
  simp only[hr,lF,fm,cA,dL,UInt8.lt_iff_toNat_lt]at J U⊢;rcases J with J|⟨rfl,J⟩<;>rcases U with U|⟨rfl,U⟩
  ·left;omega
  ·left;exact J
  ·left;exact U
  ·exact .inr ⟨rfl,NK a b d J U⟩
theorem j1:jk ey:=by
 refine⟨fun a b=>?_,fun a b d=>?_,fun a b=>?_⟩
 ·simp only[ey];repeat' split
  all_goals omega
 ·simp only[ey];repeat' split
  all_goals omega
 ·simp only[ey];repeat' split
  all_goals omega
theorem CP:jk kp:=by
 have aA:∀a b,kp b a= -kp a b:=fun a b=>by
  simp only[kp];by_cases e:a=b
  ·subst e;simp
  ·rw[if_neg e,if_neg (kL e)];cases h:hr a b with
   |true=>simp[HH a b h]
   |false=>simp[NL a b e h]
 refine⟨aA,fun a b d J U=>?_,fun a b=>?_⟩
 ·simp only[kp]at J U⊢;by_cases ak:a=b
  ·subst ak;exact U
  ·by_cases aC:b=d
   ·subst aC;exact J
   ·rw[if_neg ak]at J;rw[if_neg aC]at U;have g1:hr a b=true:=by cases h:hr a b<;>simp[h]at J⊢
    have g2:hr b d=true:=by cases h:hr b d<;>simp[h]at U⊢
    rw[NK a b d g1 g2];split<;>simp
 ·simp only[kp];by_cases e:a=b
  ·simp[e]
  ·rw[if_neg e];simp[e];split<;>omega
theorem rJ{a b:T}(h:a.kind≠b.kind):er a b=ey a.kind b.kind:=by cases a<;>cases b<;>simp at h<;>simp[er]
theorem F1:∀a b:T,er b a= -er a b
 | .pair a b,.pair c d=>by
  simp only[er];have J:=F1 a c;have U:=F1 b d;by_cases e:er a c=0
  ·rw[if_pos e,if_pos (by omega),U]
  ·rw[if_neg e,if_neg (by omega),J]
 | .nil,y=>by
  by_cases ab:T.nil.kind=y.kind
  ·cases y<;>simp at ab;simp[er,kp]
  ·rw[rJ ab,rJ (kL ab),j1.neg]
 | .var n,y=>by
  by_cases ab:(T.var n).kind=y.kind
  ·cases y<;>simp at ab;rename_i m;by_cases e:n=m
   ·subst e;simp[er,kp]
   ·simp[er,e,kL e,j1.neg n m]
  ·rw[rJ ab,rJ (kL ab),j1.neg]
 | .sym s,y=>by
  by_cases ab:(T.sym s).kind=y.kind
  ·cases y<;>simp at ab;rename_i m;simp[er,CP.neg s m]
  ·rw[rJ ab,rJ (kL ab),j1.neg]
 | .num n,y=>by
  by_cases ab:(T.num n).kind=y.kind
  ·cases y<;>simp at ab;rename_i m;by_cases e:n=m
   ·subst e;simp[er,kp]
   ·simp[er,e,kL e,j1.neg n m]
  ·rw[rJ ab,rJ (kL ab),j1.neg]
 | .pair a b,.nil| .pair a b,.var _| .pair a b,.sym _| .pair a b,.num _=>by simp[er,ey]
theorem F0{a b:T}(h:er a b≤0):a.kind≤b.kind:=by
 by_cases ab:a.kind=b.kind
 ·omega
 ·rw[rJ ab]at h;simp only[ey]at h;repeat' split at h
  all_goals omega
theorem UU(n m:Int):er (.var n) (.var m)=ey n m:=by
 simp only[er,T.kind,T.int,T.name,kp];by_cases e:n=m
 ·subst e;simp[ey]
 ·simp[e]
theorem UT(n m:Int):er (.num n) (.num m)=ey n m:=by
 simp only[er,T.kind,T.int,T.name,kp];by_cases e:n=m
 ·subst e;simp[ey]
 ·simp[e]
theorem ajg(n m:List dz):er (.sym n) (.sym m)=kp n m:=by simp[er]
theorem F2(a b d:T)(bD:a.kind≠4)(J:er a b≤0)(U:er b d≤0):er a d≤0:=by
 have aZ:=F0 J;have bI:=F0 U;by_cases ab:a.kind=d.kind
 ·cases a<;>cases d<;>simp at ab bD;all_goals(cases b<;>simp at aZ bI)
  ·simp[er,kp]
  ·rw[UU]at J U⊢;exact j1.tr _ _ _ J U
  ·rw[ajg]at J U⊢;exact CP.tr _ _ _ J U
  ·rw[UT]at J U⊢;exact j1.tr _ _ _ J U
 ·rw[rJ ab];simp only[ey];repeat' split
  all_goals omega
theorem ajh:∀a b d:T,er a b≤0→er b d≤0→er a d≤0:=by
 intro a;induction a with
 |pair bC a2 Fb Fc=>
  intro b d J U;have aZ:=F0 J;have bI:=F0 U;cases b<;>simp at aZ;all_goals(cases d<;>simp at bI)
  rename_i b8 b3 d1 d2;simp only[er]at J U⊢;by_cases ak:er bC b8=0
  ·obtain rfl:=(qB bC b8).1 ak;rw[if_pos ak]at J;by_cases aC:er bC d1=0
   ·rw[if_pos aC]at U⊢;exact Fc b3 d2 J U
   ·rw[if_neg aC]at U⊢;exact U
  ·rw[if_neg ak]at J;by_cases aC:er b8 d1=0
   ·obtain rfl:=(qB b8 d1).1 aC;rw[if_neg ak];exact J
   ·rw[if_neg aC]at U;have ao:=Fb b8 d1 J U;by_cases bj:er bC d1=0
    ·obtain rfl:=(qB bC d1).1 bj;have:=F1 bC b8;omega
    ·rw[if_neg bj];exact ao
 |nil=>exact fun b d=>F2 _ b d (by simp)
 |var n=>exact fun b d=>F2 _ b d (by simp)
 |sym n=>exact fun b d=>F2 _ b d (by simp)
 |num n=>exact fun b d=>F2 _ b d (by simp)
theorem Lb:jk er:=⟨F1,ajh,qB⟩
end Go.Pv
namespace Go.Pv
open Go
section
variable {α:Type} {c:α→α→Int}
def jI(c:α→α→Int):List α→List α→Int
 |[],[]=>0
 |[],_::_=> -1
 |_::_,[]=>1
 |x::xs,y::ys=>if c x y=0 then jI c xs ys else c x y
theorem TT(h:jk c):∀a b:List α,jI c b a= -jI c a b
 |[],[]=>rfl
 |[],_::_=>rfl
 |_::_,[]=>rfl
 |x::xs,y::ys=>by
  simp only[jI];have J:=h.neg x y;by_cases e:c x y=0
  ·rw[if_pos e,if_pos (by omega),TT h xs ys]
  ·rw[if_neg e,if_neg (by omega),J]
theorem TV(h:jk c):∀a b:List α,jI c a b=0↔a=b
 |[],[]=>by simp[jI]
 |[],_::_=>by simp[jI]
 |_::_,[]=>by simp[jI]
 |x::xs,y::ys=>by
  simp only[jI,nQ];by_cases e:c x y=0
  ·rw[if_pos e,TV h xs ys];simp[(h.zero x y).1 e]
  ·rw[if_neg e];exact⟨fun cr=>absurd cr e,fun cr=>absurd ((h.zero x y).2 cr.1) e⟩
theorem TU(h:jk c):∀a b d:List α,jI c a b≤0→jI c b d≤0→jI c a d≤0
 |[],_,[],_,_=>by simp[jI]
 |[],_,_::_,_,_=>by simp[jI]
 |_::_,[],_,J,_=>by simp[jI]at J
 |_::_,_::_,[],_,U=>by simp[jI]at U
 |x::xs,y::ys,z::cK,J,U=>by
  simp only[jI]at J U⊢;by_cases ak:c x y=0
  ·have:=(h.zero x y).1 ak;subst this;rw[if_pos ak]at J;by_cases aC:c x z=0
   ·rw[if_pos aC]at U⊢;exact TU h xs ys cK J U
   ·rw[if_neg aC]at U⊢;exact U
  ·rw[if_neg ak]at J;have bA:c x y<0:=by omega
   by_cases aC:c y z=0
   ·have:=(h.zero y z).1 aC;subst this;rw[if_neg ak];omega
   ·rw[if_neg aC]at U;have:=h.ltr bA U;rw[if_neg (by omega)];omega
theorem agq(h:jk c):jk (jI c):=⟨TT h,TU h,TV h⟩
end
def x1(x y:au):Int:=if ey x.v y.v=0 then er x.t y.t else ey x.v y.v
theorem aje:jk x1:=by
 refine⟨fun x y=>?_,fun x y z J U=>?_,fun x y=>?_⟩
 ·unfold x1;have:=j1.neg x.v y.v;have:=Lb.neg x.t y.t;by_cases e:ey x.v y.v=0
  ·rw[if_pos e,if_pos (by omega)];omega
  ·rw[if_neg e,if_neg (by omega)];omega
 ·unfold x1 at J U⊢;by_cases ak:ey x.v y.v=0
  ·rw[if_pos ak]at J;rw[(j1.zero _ _).1 ak];by_cases aC:ey y.v z.v=0
   ·rw[if_pos aC]at U⊢;exact Lb.tr _ _ _ J U
   ·rw[if_neg aC]at U⊢;exact U
  ·rw[if_neg ak]at J;have bA:ey x.v y.v<0:=by omega
   by_cases aC:ey y.v z.v=0
   ·rw[←(j1.zero _ _).1 aC,if_neg ak];exact J
   ·rw[if_neg aC]at U;have:=j1.ltr bA U;rw[if_neg (by omega)];omega
 ·unfold x1;by_cases e:ey x.v y.v=0
  ·rw[if_pos e,Lb.zero];have:=(j1.zero _ _).1 e;cases x;cases y;simp_all
  ·rw[if_neg e];exact⟨fun h=>absurd h e,fun h=>by rw[h]at e;exact absurd (j1.refl _) e⟩
def ev:List au→List au→Int:=jI x1
theorem lz:jk ev:=agq aje
end Go.Pv
namespace Go.Pv
open Go
def T.ap(aP:Int→T):T→T
 | .var n=>aP n
 | .pair a b=>.pair (a.ap aP) (b.ap aP)
 |t=>t
theorem A4(f g:Int→T)(t:T):(t.ap f).ap g=t.ap fun v=>(f v).ap g:=by
 induction t with
 |pair a b dM dN=>simp[T.ap,dM,dN]
 |_=>simp[T.ap]
theorem tv{f g:Int→T}{t:T}(h:∀v,t.occ v=true→f v=g v):t.ap f=t.ap g:=by
 induction t with
 |var n=>exact h n (by simp[T.occ])
 |pair a b dM dN=>simp only[T.ap];rw[dM fun v aJ=>h v (by simp[T.occ,aJ]),dN fun v aJ=>h v (by simp[T.occ,aJ])]
 |_=>rfl
theorem Yl(t:T):t.ap .var=t:=by induction t<;>simp_all[T.ap]
theorem Nx{f:Int→T}{t:T}(h:∀v,t.occ v=true→f v= .var v):t.ap f=t:=(tv h).trans (Yl t)
theorem Ww(f:Int→aY T)(t:T):t.sub f=t.ap fun v=>(f v).getD (.var v):=by
 induction t with
 |var n=>simp only[T.sub,T.ap];cases f n<;>rfl
 |pair a b dM dN=>simp[T.sub,T.ap,dM,dN]
 |_=>rfl
theorem Yk(aP:Int→T)(t:T):t.size≤(t.ap aP).size:=by
 induction t with
 |var n=>exact T.size_pos _
 |pair a b dM dN=>simp only[T.ap,T.size];omega
 |_=>exact eV _
theorem zW(aP:Int→T){v:Int}{t:T}(h:t.occ v=true):(aP v).size≤(t.ap aP).size∧(t.kind≠1→(aP v).size<(t.ap aP).size):=by
 induction t with
 |var n=>simp[T.occ]at h;subst h;simp[T.ap,T.kind]
 |pair a b dM dN=>
  simp only[T.occ,lF]at h;simp only[T.ap,T.size];rcases h with h|h
  ·have:=(dM h).1;exact⟨by omega,fun _=>by omega⟩
  ·have:=(dN h).1;exact⟨by omega,fun _=>by omega⟩
 |_=>simp[T.occ]at h
theorem CI{aP:Int→T}{v:Int}{t:T}:(t.ap aP).occ v=true↔∃w,t.occ w=true∧(aP w).occ v=true:=by
 induction t with
 |var n=>simp[T.ap,T.occ]
 |pair a b dM dN=>
  simp only[T.ap,T.occ,lF,dM,dN];constructor
  ·rintro(⟨w,J,U⟩|⟨w,J,U⟩)
   ·exact⟨w,.inl J,U⟩
   ·exact⟨w,.inr J,U⟩
  ·rintro⟨w,J|J,U⟩
   ·exact .inl ⟨w,J,U⟩
   ·exact .inr ⟨w,J,U⟩
 |_=>simp[T.ap,T.occ]
def cz(s:List au)(v:Int):T:=(df s v).getD (.var v)
abbrev iu(s:List au):Prop:=s.Pairwise fun x y=>x.v<y.v
def gO(s:List au)(aP:Int→T):Prop:= ∀b∈s,aP b.v=b.t.ap aP
structure fD (s:List au):Prop where
 asc:iu s
 free:∀b∈s,∀w,b.t.occ w=true→df s w=none
 ori:∀b∈s,∀w,b.t= .var w→w<b.v
theorem tx(b:au)(s:List au)(v:Int):df (b::s) v=if b.v=v then some b.t else df s v:=by
 unfold df;by_cases h:b.v=v
 ·simp[h]
 ·have:(b.v==v)=false:=by simp[h]
  simp[this,h,List.find?_cons]
theorem jS{v:Int}{t:T}:∀{s:List au},df s v=some t→(⟨v,t⟩:au)∈s
 |[],h=>by simp[df]at h
 |b::s,h=>by
  rw[tx]at h;split at h
  ·rename_i e;cases h;subst e;simp
  ·exact oK _ (jS h)
theorem uY{v:Int}:∀{s:List au},df s v=none↔∀b∈s,b.v≠v
 |[]=>by simp[df]
 |b::s=>by
  rw[tx];by_cases h:b.v=v
  ·simp[h]
  ·simp[h,uY (s:=s)]
theorem uX{b:au}:∀{s:List au},iu s→b∈s→df s b.v=some b.t
 |[],_,h=>by simp at h
 |c::s,bD,h=>by
  rw[tx];have mM:=mA.1 bD;rcases fK.1 h with rfl|h
  ·simp
  ·have:=mM.1 b h;rw[if_neg (by omega)];exact uX mM.2 h
theorem NA:∀{s ai:List au},iu s→iu ai→(∀v,df s v=df ai v)→s=ai
 |[],[],_,_,_=>rfl
 |[],c::ai,_,_,h=>by have:=h c.v;rw[tx]at this;simp[df]at this
 |c::s,[],_,_,h=>by have:=h c.v;rw[tx]at this;simp[df]at this
 |b::s,c::ai,bD,ae,h=>by
  have fI:=mA.1 ae;have mM:=mA.1 bD;have J:(⟨b.v,b.t⟩:au)∈c::ai:=jS (by rw[←h b.v,tx];simp);have U:(⟨c.v,c.t⟩:au)∈b::s:=jS (by rw[h c.v,tx];simp);have RJ:b=c:=by
   rcases fK.1 J with e|e
   ·exact e
   ·rcases fK.1 U with aC|aC
    ·exact aC.symm
    ·have a6:=fI.1 _ e;have bB:=mM.1 _ aC;simp only at a6 bB;omega
  subst RJ;rw[NA mM.2 fI.2 fun v=>?_];have:=h v;rw[tx,tx]at this;by_cases e:b.v=v
  ·have kJ:df s v=none:=uY.2 fun x ad=>by have:=mM.1 x ad;omega
   have z2:df ai v=none:=uY.2 fun x ad=>by have:=fI.1 x ad;omega
   rw[kJ,z2]
  ·simpa[e]using this
theorem alf{s:List au}(bD:iu s){aP:Int→T}:gO s aP↔∀v,aP v=(cz s v).ap aP:=by
 constructor
 ·intro h v;unfold cz;cases e:df s v with
  |none=>rfl
  |some t=>exact h _ (jS e)
 ·intro h b ae;have:=h b.v;rw[cz,uX bD ae]at this;exact this
theorem Me{s:List au}{aP:Int→T}(h:gO s aP)(t:T):t.ap aP=(t.ap (cz s)).ap aP:=by
 rw[A4];refine tv fun v _=>?_;unfold cz;cases e:df s v with
 |none=>rfl
 |some t=>exact h _ (jS e)
theorem akW{s:List au}(ag:fD s){t:T}(h:∀w,t.occ w=true→df s w=none):t.ap (cz s)=t:=Nx fun v aJ=>by simp[cz,h v aJ]
theorem yi{s:List au}(ag:fD s):gO s (cz s):=fun b ae=>by rw[akW ag (ag.free b ae),cz,uX ag.asc ae];rfl
theorem KN{s ai:List au}(ag:fD s)(eO:fD ai)(h:∀aP,gO ai aP→gO s aP){v:Int}(aJ:df ai v=none):df s v=none:=by
 cases e:df s v with
 |none=>rfl
 |some t=>
  have J:=h _ (yi eO) _ (jS e);simp only[cz,aJ,nl]at J;cases t with
  |var w=>
   have U:w<v:=ag.ori _ (jS e) w rfl;simp only[T.ap,cz]at J;cases bj:df ai w with
   |none=>rw[bj]at J;simp at J;omega
   |some u=>rw[bj]at J;simp only[k7]at J;subst J;have:=eO.ori _ (jS bj) v rfl;simp only at this;omega
  |_=>simp[T.ap]at J
theorem ag4{s ai:List au}(eO:fD ai)(h:∀aP,gO ai aP→gO s aP){v:Int}:(cz s v).size≤(cz ai v).size:=by
 have J:=h _ (yi eO);unfold cz;cases e:df s v with
 |none=>exact T.size_pos _
 |some t=>have:=J _ (jS e);show t.size≤(cz ai v).size;simp only at this;rw[this];exact Yk _ _
theorem ali{s ai:List au}(ag:fD s)(eO:fD ai)(h:∀aP,gO s aP↔gO ai aP):s=ai:=by
 refine NA ag.asc eO.asc fun v=>?_;have d1:∀w,df s w=none↔df ai w=none:=fun w=>⟨KN eO ag (fun aP=>(h aP).1),KN ag eO fun aP=>(h aP).2⟩;cases e:df s v with
 |none=>exact((d1 v).1 e).symm
 |some t=>
  cases fE:df ai v with
  |none=>rw[(d1 v).2 fE]at e;cases e
  |some dG=>have J:=(h _).2 (yi eO) _ (jS e);simp only[cz,fE,k7]at J;rw[J];exact eZ some (Nx fun w hw=>by have:=(d1 w).1 (ag.free _ (jS e) w hw);simp[cz,this]).symm
def hs(s:List au):Prop:=s.length≤400∧∀b∈s,b.t.size≤5000
theorem Yv{s:List au}(h:iu s):(s.map (·.v)).Nodup:=by rw[List.nodup_iff_pairwise_ne,List.pairwise_map];exact h.imp fun h=>by omega
theorem QY{s ai:List au}(ag:fD s)(eO:fD ai)(h:∀aP,gO ai aP→gO s aP)(aH:hs ai):hs s:=by
 have aR:∀x∈s.map (·.v),x∈ai.map (·.v):=by
  intro x ad;obtain⟨b,ae,rfl⟩:=iO.1 ad;cases e:df ai b.v with
  |none=>have:=KN ag eO h e;rw[uX ag.asc ae]at this;cases this
  |some t=>exact iO.2 ⟨_,jS e,rfl⟩
 have ar:=M6 (Yv ag.asc) aR;simp only[p6]at ar;refine⟨j4 ar aH.1,fun b ae=>?_⟩;have J:=ag4 (s:=s) eO h (v:=b.v);rw[cz,uX ag.asc ae]at J;obtain⟨c,aw,e⟩:=iO.1 (aR b.v (iO.2 ⟨b,ae,rfl⟩));have U:=aH.2 c aw;rw[cz,←e,uX eO.asc aw]at J;exact j4 J U
def jn(E:List (T×T))(aP:Int→T):Prop:= ∀e∈E,e.1.ap aP=e.2.ap aP
theorem Dh(aP:Int→T):jn [] aP:=fun _ h=>by simp at h
theorem qF{e:T×T}{E:List (T×T)}{aP:Int→T}:jn (e::E) aP↔e.1.ap aP=e.2.ap aP∧jn E aP:=by simp[jn]
theorem Dg{E wE:List (T×T)}{aP:Int→T}:jn (E++wE) aP↔jn E aP∧jn wE aP:=by simp only[jn,jP];exact⟨fun h=>⟨fun e he=>h e (.inl he),fun e he=>h e (.inr he)⟩,fun h e he=>he.elim (h.1 e) (h.2 e)⟩
def iy(s:List au)(E:List (T×T)):aY (List au)→Prop
 |some ai=>(fD ai∧hs ai)∧∀aP,gO ai aP↔gO s aP∧jn E aP
 |none=> ∀ai,fD ai→(∀aP,gO ai aP→gO s aP∧jn E aP)→¬hs ai
theorem X9{s:List au}{E:List (T×T)}:∀{o o':aY (List au)},iy s E o→iy s E o'→o=o'
 |none,none,_,_=>rfl
 |some s1,none,h,cr=>absurd h.1.2 (cr s1 h.1.1 fun aP=>(h.2 aP).1)
 |none,some s1,cr,h=>absurd h.1.2 (cr s1 h.1.1 fun aP=>(h.2 aP).1)
 |some s1,some s2,h,cr=>by rw[ali h.1.1 cr.1.1 fun aP=>(h.2 aP).trans (cr.2 aP).symm]
theorem A2{s s2:List au}{E M9:List (T×T)}(h:∀aP,(gO s aP∧jn E aP)↔(gO s2 aP∧jn M9 aP)):∀{o:aY (List au)},iy s E o→iy s2 M9 o
 |none,aK=>fun ai J U=>aK ai J fun aP hp=>(h aP).2 (U aP hp)
 |some s1,aK=>⟨aK.1,fun aP=>(aK.2 aP).trans (h aP)⟩
theorem Ni{s s1:List au}{E wE:List (T×T)}(h:iy s E (some s1)):∀{o:aY (List au)},iy s1 wE o→iy s (E++wE) o
 |none,aK=>fun ai J U=>aK ai J fun aP hp=>⟨(h.2 aP).2 ⟨(U aP hp).1,(Dg.1 (U aP hp).2).1⟩,(Dg.1 (U aP hp).2).2⟩
 |some s2,aK=>⟨aK.1,fun aP=>by rw[aK.2 aP,h.2 aP,Dg,and_assoc]⟩
theorem Hu{s:List au}{E:List (T×T)}(wE:List (T×T))(h:iy s E none):iy s (E++wE) none:=fun ai J U=>h ai J fun aP hp=>⟨(U aP hp).1,(Dg.1 (U aP hp).2).1⟩
theorem DO{s:List au}{E:List (T×T)}(h:∀aP,gO s aP→¬jn E aP):iy s E none:=fun ai J U=>absurd (U _ (yi J)).2 (h _ (U _ (yi J)).1)
theorem Hv{s:List au}(ag:fD s)(aH:hs s):iy s [] (some s):=⟨⟨ag,aH⟩,fun aP=>⟨fun h=>⟨h,Dh aP⟩,fun h=>h.1⟩⟩
def one(v:Int)(x:T)(w:Int):T:=if w=v then x else .var w
def oj(b:au):List au→List au
 |[]=>[b]
 |c::s=>if b.v<c.v then b::c::s else c::oj b s
def l4(s:List au)(v:Int)(x:T):List au:=oj ⟨v,x⟩ (s.map fun b=>⟨b.v,b.t.ap (one v x)⟩)
theorem KF{b x:au}:∀{s:List au},x∈oj b s↔x=b∨x∈s
 |[]=>by simp[oj]
 |c::s=>by
  simp only[oj];split
  ·simp
  ·simp only[fK,KF (s:=s)];constructor
   ·rintro(h|h|h)
    ·exact .inr (.inl h)
    ·exact .inl h
    ·exact .inr (.inr h)
   ·rintro(h|h|h)
    ·exact .inr (.inl h)
    ·exact .inl h
    ·exact .inr (.inr h)
theorem TS{b:au}:∀{s:List au},(oj b s).length=s.length+1
 |[]=>rfl
 |c::s=>by simp only[oj];split<;>simp[TS]
theorem NB{b:au}:∀{s:List au},iu s→(∀c∈s,c.v≠b.v)→iu (oj b s)
 |[],_,_=>by simp[oj]
 |c::s,bD,aA=>by
  have mM:=mA.1 bD;simp only[oj];split
  ·rename_i bA;refine mA.2 ⟨fun x ad=>?_,bD⟩;rcases fK.1 ad with rfl|ad
   ·exact bA
   ·have:=mM.1 x ad;omega
  ·rename_i tT;refine mA.2 ⟨fun x ad=>?_,NB mM.2 fun c aw=>aA c (by simp[aw])⟩;rcases KF.1 ad with rfl|ad
   ·have:=aA c (by simp);omega
   ·exact mM.1 x ad
theorem pT{s:List au}{v:Int}{x:T}{b:au}:b∈l4 s v x↔b=⟨v,x⟩∨ ∃c∈s,b=⟨c.v,c.t.ap (one v x)⟩:=by unfold l4;rw[KF,iO];refine or_congr Iff.rfl ⟨fun⟨c,J,U⟩=>⟨c,J,U.symm⟩,fun⟨c,J,U⟩=>⟨c,J,U.symm⟩⟩
theorem UP{v:Int}{x:T}{aP:Int→T}(h:aP v=x.ap aP)(t:T):(t.ap (one v x)).ap aP=t.ap aP:=by
 rw[A4];refine tv fun w _=>?_;unfold one;split
 ·rename_i e;subst e;exact h.symm
 ·rfl
theorem DS{s:List au}{v w:Int}{x:T}:df (l4 s v x) w=none↔w≠v∧df s w=none:=by
 rw[uY,uY];constructor
 ·intro h;exact⟨fun e=>h ⟨v,x⟩ (pT.2 (.inl rfl)) e.symm,fun b ae=>h ⟨b.v,b.t.ap (one v x)⟩ (pT.2 (.inr ⟨b,ae,rfl⟩))⟩
 ·rintro⟨J,U⟩ b ae;rcases pT.1 ae with rfl|⟨c,aw,rfl⟩
  ·exact fun e=>J e.symm
  ·exact U c aw
theorem Mc{s:List au}(ag:fD s){t:T}{w:Int}(h:(t.ap (cz s)).occ w=true):df s w=none:=by
 obtain⟨u,_,U⟩:=CI.1 h;unfold cz at U;cases e:df s u with
 |none=>rw[e]at U;simp[T.occ]at U;subst U;exact e
 |some t=>rw[e]at U;exact ag.free _ (jS e) w U
theorem alh{s:List au}(ag:fD s){v:Int}{t:T}(aJ:df s v=none)(av:(t.ap (cz s)).occ v=false)(sD:∀w,t.ap (cz s)= .var w→w<v):fD (l4 s v (t.ap (cz s))):=by
 have ad:∀w,(t.ap (cz s)).occ w=true→df (l4 s v (t.ap (cz s))) w=none:=fun w hw=>DS.2 ⟨fun e=>(by subst e;rw[av]at hw;cases hw),Mc ag hw⟩;refine⟨NB ?_ ?_,fun b ae w hw=>?_,fun b ae w hw=>?_⟩
 ·rw[iu,List.pairwise_map];exact ag.asc
 ·intro c aw;obtain⟨b,ae,rfl⟩:=iO.1 aw;exact uY.1 aJ b ae
 ·rcases pT.1 ae with rfl|⟨c,aw,rfl⟩
  ·exact ad w hw
  ·obtain⟨u,J,U⟩:=CI.1 hw;unfold one at U;split at U
   ·exact ad w U
   ·rename_i cF;simp[T.occ]at U;subst U;exact DS.2 ⟨cF,ag.free c aw _ J⟩
 ·rcases pT.1 ae with rfl|⟨c,aw,rfl⟩
  ·exact sD w hw
  ·simp only at hw⊢;cases e:c.t with
   |var u=>
    have:=ag.ori c aw u e;rw[e]at hw;simp only[T.ap,one]at hw;split at hw
    ·rename_i aC;subst aC;have:=sD w hw;omega
    ·cases hw;exact this
   |_=>rw[e]at hw;simp[T.ap]at hw
theorem Wl{s:List au}{v:Int}{t:T}(aP:Int→T):gO (l4 s v (t.ap (cz s))) aP↔gO s aP∧jn [(.var v,t)] aP:=by
 have ak:jn [(.var v,t)] aP↔aP v=t.ap aP:=by simp[jn,T.ap]
 rw[ak];constructor
 ·intro h;have bq:aP v=(t.ap (cz s)).ap aP:=h _ (pT.2 (.inl rfl));have J:gO s aP:=fun b ae=>by have:=h _ (pT.2 (.inr ⟨b,ae,rfl⟩));simp only at this;rw[UP bq]at this;exact this
  exact⟨J,by rw[Me J t];exact bq⟩
 ·rintro⟨J,U⟩ b ae;have bq:aP v=(t.ap (cz s)).ap aP:=by rw[←Me J t];exact U
  rcases pT.1 ae with rfl|⟨c,aw,rfl⟩
  ·exact bq
  ·simp only;rw[UP bq];exact J c aw
open Classical in
theorem X6{s:List au}(ag:fD s){v:Int}{t:T}(aJ:df s v=none)(av:(t.ap (cz s)).occ v=false)(sD:∀w,t.ap (cz s)= .var w→w<v):iy s [(.var v,t)] (if hs (l4 s v (t.ap (cz s)))then some (l4 s v (t.ap (cz s)))else none):=by
 have J:=alh ag aJ av sD;split
 ·rename_i aH;exact⟨⟨J,aH⟩,Wl⟩
 ·rename_i aH;exact fun ai U ao a7=>aH (QY J U (fun aP hp=>(Wl aP).2 (ao aP hp)) a7)
def hh(s:List au):T→T
 | .var n=>cz s n
 |t=>t
def nq(s:List au)(v:Int)(t:T):aY (List au):=if(t.ap (cz s)).size≤5000∧(t.ap (cz s)).occ v=false∧s.length<400∧∀b∈s,(b.t.ap (one v (t.ap (cz s)))).size≤5000 then some (l4 s v (t.ap (cz s)))else none
def jO(rec:List au→T→T→aY (aY (List au)))(s:List au):T→T→aY (aY (List au))
 | .var i,.var j=>some (if i<j then nq s j (.var i)else if i=j then some s else nq s i (.var j))
 | .var i,y=>some (nq s i y)
 |x,.var j=>some (nq s j x)
 | .pair bC a2,.pair b8 b3=>match rec s bC b8 with
  |none=>none
  |some none=>some none
  |some (some s1)=>rec s1 a2 b3
 |x,y=>some (if x=y then some s else none)
def kq:Nat→List au→T→T→aY (aY (List au))
 |0,_,_,_=>none
 |n+1,s,a,b=>jO (kq n) s (hh s a) (hh s b)
theorem alV{rec LO:List au→T→T→aY (aY (List au))}(h:∀s a b o,rec s a b=some o→LO s a b=some o){s:List au}{x y:T}{o:aY (List au)}(he:jO rec s x y=some o):jO LO s x y=some o:=by
 cases x<;>cases y<;>simp only[jO]at he⊢ <;>try exact he
 rename_i bC a2 b8 b3;cases e:rec s bC b8 with
 |none=>rw[e]at he;cases he
 |some gR=>
  rw[e]at he;rw[h _ _ _ _ e];cases gR with
  |none=>exact he
  |some s1=>exact h _ _ _ _ he
theorem Dm:∀{n m:Nat} {s:List au} {a b:T} {o:aY (List au)},n≤m→kq n s a b=some o→kq m s a b=some o
 |0,_,_,_,_,_,_,h=>by simp[kq]at h
 |n+1,0,_,_,_,_,hm,_=>by omega
 |n+1,m+1,s,a,b,o,hm,h=>by simp only[kq]at h⊢;exact alV (fun s a b o h=>Dm (by omega) h) h
theorem IM{s:List au}{v:Int}{x:T}:hs (l4 s v x)↔(x.size≤5000∧s.length<400∧∀b∈s,(b.t.ap (one v x)).size≤5000):=by
 have ar:(l4 s v x).length=s.length+1:=by simp[l4,TS]
 unfold hs;rw[ar];constructor
 ·rintro⟨J,U⟩;exact⟨U _ (pT.2 (.inl rfl)),by omega,fun b ae=>U _ (pT.2 (.inr ⟨b,ae,rfl⟩))⟩
 ·rintro⟨J,U,ao⟩;refine⟨by omega,fun b ae=>?_⟩;rcases pT.1 ae with rfl|⟨c,aw,rfl⟩
  ·exact J
  ·exact ao c aw
theorem X7{s:List au}(ag:fD s){v:Int}{t:T}(aJ:df s v=none)(cF:t.ap (cz s)≠ .var v)(sD:∀w,t.ap (cz s)= .var w→w<v):iy s [(.var v,t)] (nq s v t):=by
 unfold nq;cases av:(t.ap (cz s)).occ v with
 |true=>
  rw[if_neg (by simp)];refine DO fun aP J U=>?_;have ao:=(qF.1 U).1;simp only[T.ap]at ao;rw[Me J t]at ao;have ab:(t.ap (cz s)).kind≠1:=by
   intro ab;cases e:t.ap (cz s)with
   |var w=>rw[e]at av;simp[T.occ]at av;subst av;exact cF e
   |_=>rw[e]at ab;simp[T.kind]at ab
  have:=(zW aP av).2 ab;rw[←ao]at this;omega
 |false=>
  have J:=X6 ag aJ av sD;by_cases aH:hs (l4 s v (t.ap (cz s)))
  ·rw[if_pos aH]at J;rw[if_pos ⟨(IM.1 aH).1,rfl,(IM.1 aH).2⟩];exact J
  ·rw[if_neg aH]at J;rw[if_neg fun h=>aH (IM.2 ⟨h.1,h.2.2⟩)];exact J
theorem Xu{s:List au}(ag:fD s){t:T}{i:Int}(h:hh s t= .var i):df s i=none:=by
 cases t with
 |var n=>
  simp only[hh,cz]at h;cases e:df s n with
  |none=>rw[e]at h;simp at h;subst h;exact e
  |some u=>rw[e]at h;simp at h;subst h;exact ag.free _ (jS e) i (by simp[T.occ])
 |_=>simp[hh]at h
theorem MX{s:List au}{aP:Int→T}(h:gO s aP)(t:T):(hh s t).ap aP=t.ap aP:=by
 cases t with
 |var n=>
  simp only[hh,T.ap,cz];cases e:df s n with
  |none=>rfl
  |some u=>exact(h _ (jS e)).symm
 |_=>rfl
theorem Xw{s:List au}(ag:fD s)(t:T):(hh s t).ap (cz s)=t.ap (cz s):=MX (yi ag) t
def pN(V:List Int)(t:T):Prop:= ∀w,t.occ w=true→w∈V
def xC(V:List Int)(s:List au):Prop:= ∀b∈s,b.v∈V∧pN V b.t
def yO(V:List Int)(s:List au):Nat:=(V.filter fun v=>(df s v).isNone).length
theorem QX{α:Type}{p q:α→Bool}{v:α}:∀{V:List α},(∀x∈V,q x=true→p x=true)→v∈V→p v=true→q v=false→(V.filter q).length<(V.filter p).length
 |[],_,h,_,_=>by simp at h
 |x::V,h,aJ,bH,br=>by
  have hle:∀W:List α,(∀x∈W,q x=true→p x=true)→(W.filter q).length≤(W.filter p).length:=by
   intro W;induction W with
   |nil=>intro _;simp
   |cons y W bN=>intro sr;have:=bN fun x ad=>sr x (by simp[ad]);have aM:=sr y (by simp);simp only[List.filter_cons];cases e:q y<;>cases aC:p y<;>simp_all<;>omega
  simp only[List.filter_cons];rcases fK.1 aJ with rfl|aJ
  ·have:=hle V fun x ad=>h x (by simp[ad]);simp[bH,br];omega
  ·have:=QX (fun x ad=>h x (oK _ ad)) aJ bH br;have ad:=h x (by simp);cases e:q x<;>cases aC:p x<;>simp_all<;>omega
theorem Zv{V:List Int}{s:List au}{v:Int}{x:T}(aJ:v∈V)(aA:df s v=none):yO V (l4 s v x)<yO V s:=by
 unfold yO;refine QX (v:=v) (fun w _ h=>?_) aJ (by simp[aA]) ?_
 ·rw[Option.isNone_iff_eq_none,DS]at h;simp[h.2]
 ·cases e:df (l4 s v x) v with
  |none=>exact absurd rfl (DS.1 e).1
  |some _=>rfl
theorem SV{V:List Int}{s:List au}(h:xC V s){t:T}(aL:pN V t):pN V (t.ap (cz s)):=fun w hw=>by
 obtain⟨u,J,U⟩:=CI.1 hw;unfold cz at U;cases e:df s u with
 |none=>rw[e]at U;simp[T.occ]at U;subst U;exact aL _ J
 |some x=>rw[e]at U;exact(h _ (jS e)).2 w U
theorem afC{V:List Int}{s:List au}(h:xC V s){v:Int}{x:T}(aJ:v∈V)(ad:pN V x):xC V (l4 s v x):=fun b ae=>by
 rcases pT.1 ae with rfl|⟨c,aw,rfl⟩
 ·exact⟨aJ,ad⟩
 ·refine⟨(h c aw).1,fun w hw=>?_⟩;obtain⟨u,J,U⟩:=CI.1 hw;unfold one at U;split at U
  ·exact ad w U
  ·simp[T.occ]at U;subst U;exact(h c aw).2 _ J
theorem SX{V:List Int}{s:List au}(h:xC V s){t:T}(aL:pN V t):pN V (hh s t):=by
 cases t with
 |var n=>have:=SV h aL;simpa[hh,T.ap]using this
 |_=>exact aL
def A1(V:List Int)(s:List au)(a b:T)(o:aY (List au)):Prop:=iy s [(a,b)] o∧∀ai,o=some ai→xC V ai∧(ai=s∨yO V ai<yO V s)
theorem Dp{V:List Int}{s:List au}(ag:fD s)(jW:xC V s){v:Int}{t a b:T}(aJ:v∈V)(aL:pN V t)(aA:df s v=none)(cF:t.ap (cz s)≠ .var v)(sD:∀w,t.ap (cz s)= .var w→w<v)(aw:∀aP,gO s aP→(aP v=t.ap aP↔a.ap aP=b.ap aP)):A1 V s a b (nq s v t):=by
 refine⟨A2 (fun aP=>?_) (X7 ag aA cF sD),fun ai h=>?_⟩
 ·refine and_congr_right fun h=>?_;rw[qF,qF];simp only[T.ap,aw aP h]
 ·unfold nq at h;split at h
  ·cases h;exact⟨afC jW aJ (SV jW aL),.inr (Zv aJ aA)⟩
  ·cases h
theorem Ay{s:List au}{i:Int}(h:df s i=none):cz s i= .var i:=by simp[cz,h]
theorem WT(V:List Int)(k:Nat):∀(m:Nat) (s:List au) (a b:T),fD s→hs s→xC V s→pN V a→pN V b→yO V s=k→(a.ap (cz s)).size+(b.ap (cz s)).size=m→
  ∃n o,kq n s a b=some o∧A1 V s a b o:=by
 induction k using Nat.strongRecOn with
 |ind k J0=>
 intro m;induction m using Nat.strongRecOn with
 |ind m zC=>
 intro s a b ag aH jW bD ae ab hm;have ad:=SX jW bD;have aM:=SX jW ae;have Mp:=Xw ag a;have Mq:=Xw ag b;have tw:=fun aP (h:gO s aP)=>MX h a;have nn:=fun aP (h:gO s aP)=>MX h b;have ql:=fun i=>Xu ag (t:=a) (i:=i);have IT:=fun i=>Xu ag (t:=b) (i:=i);have key:∀(rec:List au→T→T→aY (aY (List au))) (o:aY (List au)),jO rec s (hh s a) (hh s b)=some o→(∀bC a2 b8 b3,hh s a= .pair bC a2→hh s b= .pair b8 b3→A1 V s a b o)→A1 V s a b o:=by
  intro rec o he bH;cases ex:hh s a with
  |var i=>
   have Et:=ql i ex;have qe:=fun aP h=>(tw aP h).symm.trans (by rw[ex]);cases hY:hh s b with
   |var j=>
    have w3:=IT j hY;have oT:=fun aP h=>(nn aP h).symm.trans (by rw[hY]);rw[ex,hY]at he;simp only[jO]at he;have hi:i∈V:=by rw[ex]at ad;exact ad i (by simp[T.occ])
    have af:j∈V:=by rw[hY]at aM;exact aM j (by simp[T.occ])
    rcases Int.lt_trichotomy i j with h|h|h
    ·rw[if_pos h]at he;cases he;refine Dp ag jW af (by rw[ex]at ad;exact ad) w3 (by simp[T.ap,Ay Et];omega) (fun w hw=>by simp[T.ap,Ay Et]at hw;omega) fun aP hp=>?_;rw[qe aP hp,oT aP hp];simp only[T.ap];exact⟨Eq.symm,Eq.symm⟩
    ·subst h;rw[if_neg (by omega),if_pos rfl]at he;cases he;refine⟨⟨⟨ag,aH⟩,fun aP=>⟨fun h=>⟨h,qF.2 ⟨?_,Dh aP⟩⟩,fun h=>h.1⟩⟩,fun ai e=>by cases e;exact⟨jW,.inl rfl⟩⟩;simp only;rw[qe aP h,oT aP h]
    ·rw[if_neg (by omega),if_neg (by omega)]at he;cases he;refine Dp ag jW hi (by rw[hY]at aM;exact aM) Et (by simp[T.ap,Ay w3];omega) (fun w hw=>by simp[T.ap,Ay w3]at hw;omega) fun aP hp=>?_;rw[qe aP hp,oT aP hp];simp only[T.ap]
   |_=>have oT:=fun aP h=>(nn aP h).symm.trans (by rw[hY]);rw[ex,hY]at he;simp only[jO]at he;cases he;refine Dp ag jW (by rw[ex]at ad;exact ad i (by simp[T.occ])) (by rw[hY]at aM;exact aM) Et (by simp[T.ap]) (fun w hw=>by simp[T.ap]at hw) fun aP hp=>?_;rw[qe aP hp,oT aP hp];simp only[T.ap]
  |pair bC a2=>
   cases hY:hh s b with
   |pair b8 b3=>exact bH bC a2 b8 b3 ex hY
   |var j=>have w3:=IT j hY;have qe:=fun aP h=>(tw aP h).symm.trans (by rw[ex]);have oT:=fun aP h=>(nn aP h).symm.trans (by rw[hY]);rw[ex,hY]at he;simp only[jO]at he;cases he;refine Dp ag jW (by rw[hY]at aM;exact aM j (by simp[T.occ])) (by rw[ex]at ad;exact ad) w3 (by simp[T.ap]) (fun w hw=>by simp[T.ap]at hw) fun aP hp=>?_;rw[qe aP hp,oT aP hp];simp only[T.ap];exact⟨Eq.symm,Eq.symm⟩
   |_=>have qe:=fun aP h=>(tw aP h).symm.trans (by rw[ex]);have oT:=fun aP h=>(nn aP h).symm.trans (by rw[hY]);rw[ex,hY]at he;simp only[jO]at he;simp at he;subst he;refine⟨DO fun aP J U=>?_,fun ai e=>by cases e⟩;have:=(qF.1 U).1;simp only at this;rw[qe aP J,oT aP J]at this;simp[T.ap]at this
  |_=>
   have qe:=fun aP h=>(tw aP h).symm.trans (by rw[ex]);cases hY:hh s b with
   |var j=>have w3:=IT j hY;have oT:=fun aP h=>(nn aP h).symm.trans (by rw[hY]);rw[ex,hY]at he;simp only[jO]at he;cases he;refine Dp ag jW (by rw[hY]at aM;exact aM j (by simp[T.occ])) (by rw[ex]at ad;exact ad) w3 (by simp[T.ap]) (fun w hw=>by simp[T.ap]at hw) fun aP hp=>?_;rw[qe aP hp,oT aP hp];simp only[T.ap];exact⟨Eq.symm,Eq.symm⟩
   |_=>
    have oT:=fun aP h=>(nn aP h).symm.trans (by rw[hY]);rw[ex,hY]at he;simp only[jO,dE]at he;split at he
    ·rename_i e;subst he;refine⟨⟨⟨ag,aH⟩,fun aP=>⟨fun h=>⟨h,qF.2 ⟨?_,Dh aP⟩⟩,fun h=>h.1⟩⟩,fun ai e=>by cases e;exact⟨jW,.inl rfl⟩⟩;simp only;rw[qe aP h,oT aP h];try rw[e]
    ·rename_i e;subst he;refine⟨DO fun aP J U=>?_,fun ai e=>by cases e⟩;have:=(qF.1 U).1;simp only at this;rw[qe aP J,oT aP J]at this;simp[T.ap]at this e;try exact e this
 by_cases E3:∃bC a2 b8 b3,hh s a= .pair bC a2∧hh s b= .pair b8 b3
 ·obtain⟨bC,a2,b8,b3,ex,hY⟩:=E3;have eh:(bC.ap (cz s)).size+(b8.ap (cz s)).size<m∧(a2.ap (cz s)).size+(b3.ap (cz s)).size<m:=by rw[ex]at Mp;rw[hY]at Mq;simp only[T.ap]at Mp Mq;rw[←hm,←Mp,←Mq];simp only[T.size];omega
  have kR:pN V bC:=fun w hw=>by rw[ex]at ad;exact ad w (by simp[T.occ,hw])
  have pG:pN V a2:=fun w hw=>by rw[ex]at ad;exact ad w (by simp[T.occ,hw])
  have lh:pN V b8:=fun w hw=>by rw[hY]at aM;exact aM w (by simp[T.occ,hw])
  have o6:pN V b3:=fun w hw=>by rw[hY]at aM;exact aM w (by simp[T.occ,hw])
  have RQ:∀aP,(gO s aP∧jn ([(bC,b8)]++[(a2,b3)]) aP)↔(gO s aP∧jn [(a,b)] aP):=fun aP=>and_congr_right fun h=>by simp only[List.singleton_append,qF,Dh,and_true];rw[←tw aP h,←nn aP h,ex,hY];simp[T.ap]
  obtain⟨ia,gR,ak,cU⟩:=zC _ eh.1 s bC b8 ag aH jW kR lh ab rfl;cases gR with
  |none=>refine⟨ia+1,none,?_,A2 RQ (Hu _ cU.1),fun ai e=>by cases e⟩;simp only[kq,ex,hY,jO,ak]
  |some s1=>
   obtain⟨v1,v2⟩:=cU.2 s1 rfl;have B5:∃gg gJ,kq gg s1 a2 b3=some gJ∧A1 V s1 a2 b3 gJ:=by
    rcases v2 with rfl|v2
    ·exact zC _ eh.2 _ a2 b3 ag aH jW pG o6 ab rfl
    ·exact J0 _ (by omega) _ s1 a2 b3 cU.1.1.1 cU.1.1.2 v1 pG o6 rfl rfl
   obtain⟨gg,gJ,aC,ds⟩:=B5;refine⟨max ia gg+1,gJ,?_,A2 RQ (Ni cU.1 ds.1),fun ai e=>?_⟩
   ·simp only[kq,ex,hY,jO,Dm (Nat.le_max_left ia gg) ak];exact Dm (Nat.le_max_right ia gg) aC
   ·obtain⟨ea,di⟩:=ds.2 ai e;refine⟨ea,?_⟩;rcases v2 with rfl|v2
    ·exact di
    ·rcases di with rfl|di
     ·exact .inr v2
     ·exact .inr (by omega)
 ·have Sq:∀bC a2 b8 b3,hh s a= .pair bC a2→hh s b= .pair b8 b3→eR:=fun bC a2 b8 b3 J U=>E3 ⟨bC,a2,b8,b3,J,U⟩;have:∃o,jO (kq 0) s (hh s a) (hh s b)=some o:=by cases ex:hh s a<;>cases hY:hh s b<;>simp only[jO]<;>first|exact⟨_,rfl⟩|exact(Sq _ _ _ _ ex hY).elim
  obtain⟨o,av⟩:=this;exact⟨1,o,av,key _ o av fun bC a2 b8 b3 J U=>(Sq bC a2 b8 b3 J U).elim⟩
def cZ{α:Type}(k:Int):List (Int×α)→aY α
 |[]=>none
 |(i,v)::r=>if k=i then some v else cZ k r
def eC{α:Type}(k:Int)(v:α):List (Int×α)→List (Int×α)
 |[]=>[(k,v)]
 |(i,w)::r=>if k=i then(i,v)::r else(i,w)::eC k v r
def ct{α:Type}(m:List (Int×α)):List Int:=m.map (·.1)
theorem ng{α:Type}(k:Int)(v:α)(j:Int):∀m:List (Int×α),cZ j (eC k v m)=if j=k then some v else cZ j m
 |[]=>by simp only[eC,cZ]
 |(i,w)::r=>by
  simp only[eC];by_cases h:k=i
  ·subst h;by_cases U:j=k<;>simp[cZ,U]
  ·by_cases U:j=i
   ·subst U;have:¬j=k:=fun e=>h e.symm;simp[cZ,h,this]
   ·simp[cZ,h,U,ng k v j r]
theorem GW{α:Type}{k:Int}:∀{m:List (Int×α)},(cZ k m).isSome=true↔k∈ct m
 |[]=>by simp[cZ,ct]
 |(i,w)::r=>by
  simp only[cZ,ct,gM,fK];by_cases h:k=i
  ·simp[h]
  ·simp only[h,if_false,false_or];exact GW
theorem alL{α:Type}{k:Int}{m:List (Int×α)}:cZ k m=none↔k∉ct m:=by rw[←GW];cases cZ k m<;>simp
theorem Co{α:Type}{k:Int}{v:α}:∀{m:List (Int×α)},k∈ct m→ct (eC k v m)=ct m
 |[],h=>by simp[ct]at h
 |(i,w)::r,h=>by
  simp only[eC];by_cases e:k=i
  ·simp[e,ct]
  ·rw[if_neg e];have cr:k∈ct r:=by simpa[ct,e]using h
   have:=Co (v:=v) cr;simp only[ct]at this⊢;simp[this]
theorem Ts{α:Type}{k:Int}{v:α}:∀{m:List (Int×α)},k∉ct m→ct (eC k v m)=ct m++[k]
 |[],h=>by simp[ct,eC]
 |(i,w)::r,h=>by have e:¬k=i:=fun e=>h (by simp[ct,e]);have cr:k∉ct r:=fun ab=>h (by simp[ct]at ab⊢;exact .inr ab);have:=Ts (v:=v) cr;simp only[eC,if_neg e];simp only[ct]at this⊢;simp[this]
structure bs where
 up:List (Int×Int)
 shape:List (Int×T)
 shaped:List (Int×Bool)
 color:List (Int×Int)
 size:List (Int×Int)
 full:List (Int×T)
def bs.shd(c:bs)(x:Int):Bool:=(cZ x c.shaped).getD false
def bs.shp(c:bs)(x:Int):T:=(cZ x c.shape).getD .nil
def bs.col(c:bs)(x:Int):Int:=(cZ x c.color).getD 0
def bs.sz(c:bs)(x:Int):Int:=(cZ x c.size).getD 0
def hR(m:List (Int×Int))(v:Int):Int:=(cZ v m).getD 0
def we:Nat→List (Int×Int)→Int→aY (Int×List (Int×Int))
 |0,_,_=>none
 |n+1,m,v=>if hR m v=v then some (v,m)else we n (eC v (hR m (hR m v)) m) (hR (eC v (hR m (hR m v)) m) v)
def yB(v:Int)(m:List (Int×Int)):List (Int×Int):=if(cZ v m).isSome then m else eC v v m
def rt(c:bs)(v:Int):aY (Int×bs):=(we (v.toNat+1) (yB v c.up) v).map fun p=>(p.1,{c with up:=p.2})
def T.foldO{α:Type}(f:Int→α→aY α):T→α→aY α
 | .var n,a=>f n a
 | .pair x y,a=>(x.foldO f a).bind (y.foldO f)
 |_,a=>some a
def T.mapO{α:Type}(f:Int→α→aY (T×α)):T→α→aY (T×α)
 | .var n,a=>f n a
 | .pair x y,a=>(x.mapO f a).bind fun p=>(y.mapO f p.2).map fun q=>(.pair p.1 q.1,q.2)
 |t,a=>some (t,a)
def T.sizeO{α:Type}(f:Int→α→aY (Int×α)):T→α→aY (Int×α)
 | .var n,a=>(f n a).map fun p=>(if 5001<p.1 then 5001 else p.1,p.2)
 | .pair x y,a=>(x.sizeO f a).bind fun p=>if 5000<p.1 then some p else(y.sizeO f p.2).map fun q=>(if 5001<1+p.1+q.1 then 5001 else 1+p.1+q.1,q.2)
 |_,a=>some (1,a)
def zN(t:T)(c:bs):aY bs:=t.foldO (fun v c=>(rt c v).map (·.2)) c
structure tn where
 c:bs
 seen:List (Int×Bool)
 found:Bool
def wc(rec:T→bs→List (Int×Bool)→aY tn)(x:Int)(v:Int)(a:tn):aY tn:=
 (rt a.c v).bind fun p=>if a.found=true∨p.1=x then some ⟨p.2,a.seen,true⟩
  else if(cZ p.1 a.seen).getD false=false∧p.2.shd p.1=true then rec (p.2.shp p.1) p.2 (eC p.1 true a.seen)
  else some ⟨p.2,a.seen,a.found⟩
def pn:Nat→Int→T→bs→List (Int×Bool)→aY tn
 |0,_,_,_,_=>none
 |n+1,x,t,c,seen=>t.foldO (wc (pn n x) x) ⟨c,seen,false⟩
def bs.know(c:bs)(x:Int)(t:T):bs:={c with shape:=eC x t c.shape,shaped:=eC x true c.shaped}
def ui(n:Nat)(x:Int)(t:T)(c:bs):aY (Bool×bs):=(pn n x t (c.know x t) []).map fun a=>(!a.found,a.c)
def bs.join(c:bs)(x y:Int):bs:={c with up:=eC y x c.up}
def qY(rec:T→T→bs→aY (Bool×bs))(n:Nat)(x y:Int)(c:bs):aY (Bool×bs):=
 if c.shd y=false then
  (if c.shd x=false then some (true,c)else(pn n x (c.shp x) c []).map fun a=>(!a.found,a.c))
 else if c.shd x=false then ui n x (c.shp y) c
 else(pn n x (c.shp y) c []).bind fun a=>if a.found=true then some (false,a.c)else
  (pn n x (a.c.shp x) a.c []).bind fun b=>if b.found=true then some (false,b.c)else rec (b.c.shp x) (c.shp y) b.c
def gu:Nat→T→T→bs→aY (Bool×bs)
 |0,_,_,_=>none
 |n+1,.var i,.var j,c=>(rt c i).bind fun p=>(rt p.2 j).bind fun q=>if p.1=q.1 then some (true,q.2)else if q.1<p.1 then qY (gu n) n q.1 p.1 (q.2.join q.1 p.1)else qY (gu n) n p.1 q.1 (q.2.join p.1 q.1)
 |n+1,.var i,b,c=>(rt c i).bind fun p=>if p.2.shd p.1=false then ui n p.1 b p.2 else gu n (p.2.shp p.1) b p.2
 |n+1,a,.var j,c=>gu n (.var j) a c
 |n+1,.pair bC a2,.pair b8 b3,c=>(gu n bC b8 c).bind fun p=>if p.1=true then gu n a2 b3 p.2 else some (false,p.2)
 |_+1,a,b,c=>some (decide (a=b),c)
structure jm (m:List (Int×Int)) (ρ:Int→Int):Prop where
 up:∀v u,cZ v m=some u→(0≤u∧u≤v∧u∈ct m)∧ρ u=ρ v∧(ρ v=v↔u=v)
 no:∀v,v∉ct m→ρ v=v
theorem jm.get{m:List (Int×Int)}{ρ:Int→Int}(h:jm m ρ){v:Int}(aJ:v∈ct m):∃u,cZ v m=some u∧hR m v=u:=by have:=GW.2 aJ;obtain⟨u,hu⟩:=fL.1 this;exact⟨u,hu,by simp[hR,hu]⟩
theorem jm.root{m:List (Int×Int)}{ρ:Int→Int}(h:jm m ρ):∀(n:Nat) (v:Int),v.toNat≤n→(ρ v≤v∧ρ (ρ v)=ρ v∧(v∈ct m→ρ v∈ct m∧0≤ρ v)):=by
 intro n;induction n using Nat.strongRecOn with
 |ind n bN=>
 intro v aA;by_cases aJ:v∈ct m
 ·obtain⟨u,J,_⟩:=h.get aJ;obtain⟨⟨bC,a2,a3⟩,a4,a5⟩:=h.up v u J;by_cases e:u=v
  ·have:=a5.2 e;subst e;rw[this];exact⟨by omega,this,fun _=>⟨a3,bC⟩⟩
  ·obtain⟨b8,b3,fG⟩:=bN (u.toNat) (by omega) u (by omega);rw[←a4];exact⟨by omega,b3,fun _=>fG a3⟩
 ·have:=h.no v aJ;rw[this];exact⟨by omega,this,fun h=>absurd h aJ⟩
theorem jm.le{m:List (Int×Int)}{ρ:Int→Int}(h:jm m ρ)(v:Int):ρ v≤v:=(h.root v.toNat v (eV _)).1
theorem jm.idem{m:List (Int×Int)}{ρ:Int→Int}(h:jm m ρ)(v:Int):ρ (ρ v)=ρ v:=(h.root v.toNat v (eV _)).2.1
theorem jm.mem{m:List (Int×Int)}{ρ:Int→Int}(h:jm m ρ){v:Int}(aJ:v∈ct m):ρ v∈ct m∧0≤ρ v:=(h.root v.toNat v (eV _)).2.2 aJ
theorem Wd{ρ:Int→Int}:∀(n:Nat) (m:List (Int×Int)) (v:Int),jm m ρ→v∈ct m→v.toNat<n→∃hq,we n m v=some (ρ v,hq)∧jm hq ρ∧ct hq=ct m
 |0,_,_,_,_,aA=>by omega
 |n+1,m,v,h,aJ,aA=>by
  obtain⟨u,J,U⟩:=h.get aJ;obtain⟨⟨bC,a2,a3⟩,a4,a5⟩:=h.up v u J;simp only[we,U];by_cases e:u=v
  ·rw[if_pos e];have:=a5.2 e;exact⟨m,by rw[this],h,rfl⟩
  ·rw[if_neg e];obtain⟨x,g1,g2⟩:=h.get a3;obtain⟨⟨b8,b3,fG⟩,oU,NG⟩:=h.up u x g1;rw[g2];have ab:=Co (v:=x) aJ;have lP:jm (eC v x m) ρ:=by
    refine⟨fun w y hw=>?_,fun w hw=>h.no w (by rw[ab]at hw;exact hw)⟩;rw[ng]at hw;rw[ab];by_cases ew:w=v
    ·subst ew;rw[if_pos rfl]at hw;cases hw;refine⟨⟨b8,by omega,fG⟩,by rw[oU,a4],⟨fun aK=>absurd (a5.1 aK) e,fun ad=>?_⟩⟩;have:u=w:=by omega
     exact absurd this e
    ·rw[if_neg ew]at hw;exact h.up w y hw
   have afi:hR (eC v x m) v=x:=by simp[hR,ng]
   rw[afi];obtain⟨hq,bG,ch,c3⟩:=Wd n (eC v x m) x lP (by rw[ab];exact fG) (by omega);exact⟨hq,by rw[bG,oU,a4],ch,by rw[c3,ab]⟩
structure ix (ρ:Int→Int) (c cq:bs):Prop where
 ru:jm cq.up ρ
 keys:ct cq.up=ct c.up
 eq:cq={c with up:=cq.up}
theorem ix.refl{ρ:Int→Int}{c:bs}(h:jm c.up ρ):ix ρ c c:=⟨h,rfl,rfl⟩
theorem ix.trans{ρ:Int→Int}{a b c:bs}(h:ix ρ a b)(k:ix ρ b c):ix ρ a c:=⟨k.ru,k.keys.trans h.keys,by rw[k.eq,h.eq]⟩
theorem ix.shd{ρ:Int→Int}{c cq:bs}(h:ix ρ c cq)(x:Int):cq.shd x=c.shd x:=by rw[h.eq];rfl
theorem ix.shp{ρ:Int→Int}{c cq:bs}(h:ix ρ c cq)(x:Int):cq.shp x=c.shp x:=by rw[h.eq];rfl
theorem sY{ρ:Int→Int}{c:bs}{v:Int}(h:jm c.up ρ)(aJ:v∈ct c.up):∃cq,rt c v=some (ρ v,cq)∧ix ρ c cq:=by
 have bD:yB v c.up=c.up:=by simp[yB,GW.2 aJ]
 obtain⟨hq,J,U,ao⟩:=Wd (v.toNat+1) c.up v h aJ (by omega);exact⟨{c with up:=hq},by simp[rt,bD,J],⟨U,ao,rfl⟩⟩
theorem akJ{ρ:Int→Int}{c:bs}{v:Int}(h:jm c.up ρ)(bq:0≤v)(aJ:v∉ct c.up):rt c v=some (v,{c with up:=eC v v c.up})∧jm (eC v v c.up) ρ∧ct (eC v v c.up)=ct c.up++[v]:=by
 have aA:=alL.2 aJ;have ab:=Ts (v:=v) aJ;refine⟨?_,⟨fun w u hw=>?_,fun w hw=>h.no w fun hm=>hw (by rw[ab];simp[hm])⟩,ab⟩
 ·simp[rt,yB,aA,we,hR,ng]
 ·rw[ng]at hw;rw[ab];by_cases e:w=v
  ·subst e;rw[if_pos rfl]at hw;cases hw;exact⟨⟨bq,by omega,by simp⟩,rfl,⟨fun _=>rfl,fun _=>h.no _ aJ⟩⟩
  ·rw[if_neg e]at hw;obtain⟨⟨bC,a2,a3⟩,a4⟩:=h.up w u hw;exact⟨⟨bC,a2,by simp[a3]⟩,a4⟩
def bs.ph(c:bs)(x:Int):aY T:=if c.shd x then some (c.shp x)else none
theorem ix.ph{ρ:Int→Int}{c cq:bs}(h:ix ρ c cq):cq.ph=c.ph:=by funext x;simp only[bs.ph,h.shd,h.shp]
def jR(ph:Int→aY T)(ρ:Int→Int)(aP:Int→T):Prop:=(∀v,aP v=aP (ρ v))∧∀x t,ρ x=x→ph x=some t→aP x=t.ap aP
def iP(ph:Int→aY T)(ρ:Int→Int)(z u:Int):Prop:=ρ z=z∧∃t w,ph z=some t∧t.occ w=true∧ρ w=u
inductive mC (E:Int→Int→Prop):Int→Int→Prop
 |refl (a:Int):mC E a a
 |step {a b c:Int}:E a b→mC E b c→mC E a c
def nY(V:List Int)(ph:Int→aY T):Prop:= ∀x t,ph x=some t→t.kind≠1∧(∀w,t.occ w=true→w∈V)∧x∈V
def G2(V:List Int)(ph:Int→aY T)(seen:List (Int×Bool)):Nat:=(V.filter fun v=>(ph v).isSome&& !((cZ v seen).getD false)).length
def mh(seen:List (Int×Bool))(z:Int):Prop:=(cZ z seen).getD false=true
structure XZ (V:List Int) (ph:Int→aY T) (ρ:Int→Int) (x:Int) (occ:Int→Prop) (a bn:tn):Prop where
 sm:ix ρ a.c bn.c
 sub:∀z,mh a.seen z→mh bn.seen z
 yes:bn.found=true→a.found=true∨ ∃w,occ w∧mC (iP ph ρ) (ρ w) x
 kept:a.found=true→bn.found=true
 no:bn.found=false→(∀w,occ w→ρ w≠x∧((ph (ρ w)).isSome=true→mh bn.seen (ρ w)))∧∀r,mh bn.seen r→¬mh a.seen r→∀u,iP ph ρ r u→u≠x∧((ph u).isSome=true→mh bn.seen u)
theorem Eu{α:Type}{p q:α→Bool}:∀{V:List α},(∀x∈V,q x=true→p x=true)→(V.filter q).length≤(V.filter p).length
 |[],_=>by simp
 |y::V,h=>by have:=Eu (p:=p) (q:=q) (V:=V) fun x ad=>h x (by simp[ad]);have aM:=h y (by simp);simp only[List.filter_cons];cases e:q y<;>cases aC:p y<;>simp_all<;>omega
theorem Ev{α:Type}{p q:α→Bool}{v:α}:∀{V:List α},(∀x∈V,q x=true→p x=true)→v∈V→p v=true→q v=false→(V.filter q).length<(V.filter p).length
 |[],_,h,_,_=>by simp at h
 |x::V,h,aJ,bH,br=>by
  have hle:=Eu (p:=p) (q:=q) (V:=V) fun x ad=>h x (oK _ ad);simp only[List.filter_cons];rcases fK.1 aJ with rfl|aJ
  ·simp[bH,br];omega
  ·have:=Ev (fun x ad=>h x (oK _ ad)) aJ bH br;have ad:=h x (by simp);cases e:q x<;>cases aC:p x<;>simp_all<;>omega
theorem alX{V:List Int}{ph:Int→aY T}{s ai:List (Int×Bool)}(h:∀z,mh s z→mh ai z):G2 V ph ai≤G2 V ph s:=
 Eu fun x _ ad=>by
  simp only[cA,Bool.not_eq_true']at ad⊢;refine⟨ad.1,?_⟩;cases e:(cZ x s).getD false with
  |false=>rfl
  |true=>have:=h x e;unfold mh at this;rw[ad.2]at this;cases this
theorem J1{s:List (Int×Bool)}{r z:Int}:mh (eC r true s) z↔z=r∨mh s z:=by unfold mh;rw[ng];by_cases h:z=r<;>simp[h]
theorem akB{V:List Int}{ph:Int→aY T}{ρ:Int→Int}{x:Int}(gB:nY V ph)(k:Nat):∀(t:T) (a:tn),jm a.c.up ρ→ct a.c.up=V→a.c.ph=ph→(∀w,t.occ w=true→w∈V)→G2 V ph a.seen≤k→
  ∃N bn,(∀n,N≤n→t.foldO (wc (pn n x) x) a=some bn)∧XZ V ph ρ x (fun w=>t.occ w=true) a bn:=by
 induction k using Nat.strongRecOn with
 |ind k J0=>
 intro t;induction t with
 |var v=>
  intro a lP ab je aL Cb;obtain⟨bG,J,U⟩:=sY lP (by rw[ab];exact aL v (by simp[T.occ]));have lQ:bG.shd (ρ v)=(ph (ρ v)).isSome:=by rw[U.shd,←je];simp only[bs.ph];split<;>simp_all
  by_cases aH:a.found=true∨ρ v=x
  ·refine⟨0,⟨bG,a.seen,true⟩,fun n _=>by simp[T.foldO,wc,J,aH],U,fun z bE=>bE,fun _=>?_,fun _=>rfl,fun h=>by cases h⟩;rcases aH with aH|aH
   ·exact .inl aH
   ·exact .inr ⟨v,by simp[T.occ],by rw[aH];exact .refl _⟩
  ·by_cases ag:(cZ (ρ v) a.seen).getD false=false∧bG.shd (ρ v)=true
   ·have E2:ph (ρ v)=some (bG.shp (ρ v)):=by rw[←je];simp only[bs.ph,U.shp];rw[if_pos (by rw[←U.shd];exact ag.2)]
    obtain⟨g1,g2,g3⟩:=gB _ _ E2;have bA:G2 V ph (eC (ρ v) true a.seen)<k:=by
     refine Nat.lt_of_lt_of_le (Ev (v:=ρ v) (fun z _ bE=>?_) g3 ?_ ?_) Cb
     ·simp only[cA,Bool.not_eq_true']at bE⊢;refine⟨bE.1,?_⟩;rw[ng]at bE;by_cases e:z=ρ v
      ·subst e;exact ag.1
      ·rw[if_neg e]at bE;exact bE.2
     ·simp[E2,ag.1]
     ·simp[ng]
    obtain⟨N,bn,ak,cU⟩:=J0 _ bA (bG.shp (ρ v)) ⟨bG,eC (ρ v) true a.seen,false⟩ U.ru (by rw[U.keys];exact ab) (by rw[U.ph];exact je) g2 (eV _);refine⟨N+1,bn,fun n aA=>?_,U.trans cU.sm,fun z bE=>cU.sub z (J1.2 (.inr bE)),fun aM=>?_,fun h=>absurd (.inl h) aH,fun dg=>?_⟩
    ·obtain⟨n',rfl⟩:∃n',n=n'+1:=⟨n-1,by omega⟩;simp only[T.foldO,wc,J,kM,if_neg aH,if_pos ag,pn];exact ak n' (by omega)
    ·rcases cU.yes aM with h|⟨w,a6,bB⟩
     ·cases h
     ·exact .inr ⟨v,by simp[T.occ],.step ⟨by rw[jm.idem lP],_,w,E2,a6,rfl⟩ bB⟩
    ·obtain⟨a6,bB⟩:=cU.no dg;have jc:mh bn.seen (ρ v):=cU.sub _ (J1.2 (.inl rfl));refine⟨fun w hw=>?_,fun r aK dC u hu=>?_⟩
     ·simp[T.occ]at hw;subst hw;exact⟨fun e=>aH (.inr e),fun _=>jc⟩
     ·by_cases qk:r=ρ v
      ·subst qk;obtain⟨_,dG,w,kJ,z2,rfl⟩:=hu;rw[E2]at kJ;cases kJ;exact a6 w z2
      ·exact bB r aK (fun h=>(J1.1 h).elim qk dC) u hu
   ·have BJ:a.found=false:=by cases e:a.found with
     |false=>rfl
     |true=>exact absurd (.inl e) aH
    refine⟨0,⟨bG,a.seen,a.found⟩,fun n _=>by simp only[T.foldO,wc,J,kM,if_neg aH,if_neg ag],U,fun z bE=>bE,fun h=>.inl h,fun h=>h,fun _=>⟨fun w hw=>?_,fun r J U=>absurd J U⟩⟩;simp[T.occ]at hw;subst hw;refine⟨fun e=>aH (.inr e),fun bH=>?_⟩;unfold mh;cases e:(cZ (ρ v) a.seen).getD false with
    |true=>rfl
    |false=>exact absurd ⟨e,by rw[lQ];exact bH⟩ ag
 |pair p q afA afB=>
  intro a lP ab je aL Cb;obtain⟨hC,bC,ak,cU⟩:=afA a lP ab je (fun w hw=>aL w (by simp[T.occ,hw])) Cb;obtain⟨iR,a2,aC,ds⟩:=afB bC cU.sm.ru (by rw[cU.sm.keys];exact ab) (by rw[cU.sm.ph];exact je) (fun w hw=>aL w (by simp[T.occ,hw])) (j4 (alX cU.sub) Cb);refine⟨max hC iR,a2,fun n aA=>by simp only[T.foldO];rw[ak n (by omega)];exact aC n (by omega),cU.sm.trans ds.sm,fun z bE=>ds.sub z (cU.sub z bE),fun aM=>?_,fun h=>ds.kept (cU.kept h),fun dg=>?_⟩
  ·rcases ds.yes aM with h|⟨w,a6,bB⟩
   ·rcases cU.yes h with h|⟨w,a6,bB⟩
    ·exact .inl h
    ·exact .inr ⟨w,by simp[T.occ,a6],bB⟩
   ·exact .inr ⟨w,by simp[T.occ,a6],bB⟩
  ·have adK:bC.found=false:=by cases e:bC.found with
    |false=>rfl
    |true=>have:=ds.kept e;rw[dg]at this;cases this
   obtain⟨dF,fb⟩:=cU.no adK;obtain⟨s1,s2⟩:=ds.no dg;refine⟨fun w hw=>?_,fun r aK dC u hu=>?_⟩
   ·simp only[T.occ,lF]at hw;rcases hw with hw|hw
    ·exact⟨(dF w hw).1,fun h=>ds.sub _ ((dF w hw).2 h)⟩
    ·exact s1 w hw
   ·by_cases h:mh bC.seen r
    ·exact⟨(fb r h dC u hu).1,fun cS=>ds.sub _ ((fb r h dC u hu).2 cS)⟩
    ·exact s2 r aK h u hu
 |_=>intro a lP ab je aL Cb;exact⟨0,a,fun n _=>rfl,ix.refl lP,fun z bE=>bE,fun h=>.inl h,fun h=>h,fun _=>⟨fun w hw=>by simp[T.occ]at hw,fun r J U=>absurd J U⟩⟩
theorem Gr{ρ:Int→Int}{x:Int}{c:bs}{t:T}(lP:jm c.up ρ)(gB:nY (ct c.up) c.ph)(aL:∀w,t.occ w=true→w∈ct c.up):
  ∃N a,(∀n,N≤n→pn n x t c []=some a)∧ix ρ c a.c∧(a.found=true↔∃w,t.occ w=true∧mC (iP c.ph ρ) (ρ w) x):=by
 obtain⟨N,a,J,U⟩:=akB (x:=x) gB _ t ⟨c,[],false⟩ lP rfl rfl aL (eV _);refine⟨N+1,a,fun n aA=>?_,U.sm,fun h=>?_,fun⟨w,hw,aK⟩=>?_⟩
 ·obtain⟨n',rfl⟩:∃n',n=n'+1:=⟨n-1,by omega⟩;exact J n' (by omega)
 ·rcases U.yes h with h|h
  ·cases h
  ·exact h
 ·cases e:a.found with
  |true=>rfl
  |false=>
   obtain⟨a6,bB⟩:=U.no e;have key:∀z,mC (iP c.ph ρ) z x→z≠x→((c.ph z).isSome=true→mh a.seen z)→eR:=by
    have:∀z y,mC (iP c.ph ρ) z y→y=x→z≠x→((c.ph z).isSome=true→mh a.seen z)→eR:=by
     intro z y aM;induction aM with
     |refl z=>intro h cr;exact absurd h cr
     | @step z b cq he _ bN=>intro ad cF jc;obtain⟨_,dG,w',kJ,_,_⟩:=id he;have ag:=jc (by simp[kJ]);obtain⟨g1,g2⟩:=bB z ag (by simp[mh,cZ]) b he;exact bN ad g1 g2
    exact fun z bE=>this z x bE rfl
   exact(key _ aK (a6 w hw).1 (a6 w hw).2).elim
end Go.Pv
namespace Go.Pv
open Go
theorem Yb{E:Int→Int→Prop}{x:Int}{r:Int→Nat}{M:Nat}(h:∀z u,z≠x→E z u→r u<r z)(eu:∀u,E x u→r u<M)(aA:∀u,E x u→¬mC E u x):∃eF:Int→Nat,∀z u,E z u→eF u<eF z:=by
 classical
 refine⟨fun z=>if mC E z x then r z+M else r z,fun z u he=>?_⟩;show(if mC E u x then r u+M else r u)<(if mC E z x then r z+M else r z);by_cases bE:z=x
 ·subst bE;have J:=aA u he;have U:=eu u he;rw[if_neg J,if_pos (mC.refl z)];omega
 ·have J:=h z u bE he;by_cases hu:mC E u x
  ·rw[if_pos hu,if_pos (mC.step he hu)];omega
  ·rw[if_neg hu];split<;>omega
def mH(ph:Int→aY T)(ρ:Int→Int):Nat→Int→T
 |0,v=>.var (ρ v)
 |n+1,v=>match ph (ρ v)with
  |none=>.var (ρ v)
  |some t=>t.ap (mH ph ρ n)
section
variable {ph:Int→aY T} {ρ:Int→Int} {r:Int→Nat}
theorem aaB(eU:∀v,ρ (ρ v)=ρ v):∀(n:Nat) (v:Int),mH ph ρ n v=mH ph ρ n (ρ v)
 |0,v=>by simp[mH,eU]
 |n+1,v=>by simp[mH,eU]
theorem QE(eU:∀v,ρ (ρ v)=ρ v)(aK:∀z u,iP ph ρ z u→r u<r z):∀(n:Nat) (v:Int),r (ρ v)<n→mH ph ρ n v=mH ph ρ (n+1) v
 |0,_,h=>by omega
 |n+1,v,h=>by
  show(match ph (ρ v)with|none=>T.var (ρ v)|some t=>t.ap (mH ph ρ n))=(match ph (ρ v)with|none=>T.var (ρ v)|some t=>t.ap (mH ph ρ (n+1)));cases e:ph (ρ v)with
  |none=>rfl
  |some t=>refine tv fun w hw=>QE eU aK n w ?_;have:=aK (ρ v) (ρ w) ⟨eU v,t,w,e,hw,rfl⟩;omega
theorem QD(eU:∀v,ρ (ρ v)=ρ v)(aK:∀z u,iP ph ρ z u→r u<r z){n:Nat}{v:Int}(h:r (ρ v)<n):∀k,mH ph ρ (n+k) v=mH ph ρ n v
 |0=>rfl
 |k+1=>by rw[←QD eU aK h k];exact(QE eU aK (n+k) v (by omega)).symm
def gQ(ph:Int→aY T)(ρ:Int→Int)(r:Int→Nat)(v:Int):T:=mH ph ρ (r (ρ v)+1) v
theorem y3(eU:∀v,ρ (ρ v)=ρ v)(v:Int):gQ ph ρ r v=gQ ph ρ r (ρ v):=by unfold gQ;rw[aaB eU,eU]
theorem Bu{v:Int}(h:ph (ρ v)=none):gQ ph ρ r v= .var (ρ v):=by simp[gQ,mH,h]
theorem y4(eU:∀v,ρ (ρ v)=ρ v)(aK:∀z u,iP ph ρ z u→r u<r z){v:Int}{t:T}(h:ph (ρ v)=some t):gQ ph ρ r v=t.ap (gQ ph ρ r):=by show mH ph ρ (r (ρ v)+1) v=_;simp only[mH,h];refine tv fun w hw=>?_;have J:=aK (ρ v) (ρ w) ⟨eU v,t,w,h,hw,rfl⟩;have:=QD eU aK (n:=r (ρ w)+1) (v:=w) (by omega) (r (ρ v)-(r (ρ w)+1));rw[show r (ρ w)+1+(r (ρ v)-(r (ρ w)+1))=r (ρ v)from by omega]at this;exact this
theorem adI(eU:∀v,ρ (ρ v)=ρ v)(aK:∀z u,iP ph ρ z u→r u<r z):jR ph ρ (gQ ph ρ r):=⟨y3 eU,fun x t ad h=>y4 eU aK (by rw[ad];exact h)⟩
theorem GO{V:List Int}(gB:nY V ph){aP:Int→T}(h:jR ph ρ aP){z u:Int}(he:iP ph ρ z u):(aP u).size<(aP z).size:=by obtain⟨J,t,w,U,ao,rfl⟩:=he;rw[h.2 z t J U,←h.1 w];exact(zW aP ao).2 (gB z t U).1
theorem GP{V:List Int}(gB:nY V ph){aP:Int→T}(h:jR ph ρ aP){z u:Int}(he:mC (iP ph ρ) z u):(aP u).size≤(aP z).size:=by
 induction he with
 |refl=>exact eV _
 |step J _ bN=>have:=GO gB h J;omega
end
theorem YF(r:Int→Nat)(t:T):∃M,∀w,t.occ w=true→r w<M:=by
 induction t with
 |var n=>exact⟨r n+1,fun w hw=>by simp[T.occ]at hw;subst hw;omega⟩
 |pair a b dM dN=>
  obtain⟨XV,J⟩:=dM;obtain⟨XW,U⟩:=dN;refine⟨XV+XW,fun w hw=>?_⟩;simp only[T.occ,lF]at hw;rcases hw with hw|hw
  ·have:=J w hw;omega
  ·have:=U w hw;omega
 |_=>exact⟨0,fun w hw=>by simp[T.occ]at hw⟩
theorem Db{ph:Int→aY T}{ρ:Int→Int}(eU:∀v,ρ (ρ v)=ρ v){x:Int}{r:Int→Nat}(h:∀z u,z≠x→iP ph ρ z u→r u<r z)(aA:∀u,iP ph ρ x u→¬mC (iP ph ρ) u x):∃aP,jR ph ρ aP:=by
 have eu:∃M,∀u,iP ph ρ x u→r u<M:=by
  cases e:ph x with
  |none=>exact⟨0,fun u ⟨_,t,w,J,_⟩=>by rw[e]at J;cases J⟩
  |some t=>obtain⟨M,eu⟩:=YF (fun w=>r (ρ w)) t;refine⟨M,fun u ⟨_,dG,w,J,U,ao⟩=>?_⟩;rw[e]at J;cases J;subst ao;exact eu w U
 obtain⟨M,eu⟩:=eu;obtain⟨eF,dC⟩:=Yb h eu aA;exact⟨_,adI eU dC⟩
structure lG (c:bs) (ρ:Int→Int):Prop where
 ru:jm c.up ρ
 sh:nY (ct c.up) c.ph
 sat:∃aP,jR c.ph ρ aP
theorem lG.sm{c cq:bs}{ρ:Int→Int}(h:lG c ρ)(k:ix ρ c cq):lG cq ρ:=⟨k.ru,by rw[k.keys,k.ph];exact h.sh,by rw[k.ph];exact h.sat⟩
def ie(c:bs)(ρ:Int→Int):Nat:=((ct c.up).filter fun v=>decide (ρ v=v)).length+((ct c.up).filter fun v=>decide (ρ v=v)&& !(c.ph v).isSome).length
theorem wF{c cq:bs}{ρ:Int→Int}(k:ix ρ c cq):ie cq ρ=ie c ρ:=by unfold ie;rw[k.keys,k.ph]
structure iQ (c:bs) (ρ:Int→Int) (p:(Int→T)→Prop) (o:Bool×bs):Prop where
 keys:ct o.2.up=ct c.up
 rest:o.2.color=c.color∧o.2.size=c.size∧o.2.full=c.full
 yes:o.1=true→∃ρ',lG o.2 ρ'∧(∀aP,jR o.2.ph ρ' aP↔jR c.ph ρ aP∧p aP)∧((ρ'=ρ∧o.2.ph=c.ph)∨ie o.2 ρ'<ie c ρ)
 no:o.1=false→∀aP,jR c.ph ρ aP→¬p aP
theorem ix.rest{ρ:Int→Int}{c cq:bs}(h:ix ρ c cq):cq.color=c.color∧cq.size=c.size∧cq.full=c.full:=by rw[h.eq];exact⟨rfl,rfl,rfl⟩
theorem iQ.sm{c cq:bs}{ρ:Int→Int}{p:(Int→T)→Prop}{o:Bool×bs}(k:ix ρ c cq)(h:iQ cq ρ p o):iQ c ρ p o:=⟨h.keys.trans k.keys,by rw[h.rest.1,h.rest.2.1,h.rest.2.2];exact k.rest,fun e=>by rw[←wF k,←k.ph];exact h.yes e,by rw[←k.ph];exact h.no⟩
theorem iQ.congr{c:bs}{ρ:Int→Int}{p q:(Int→T)→Prop}{o:Bool×bs}(kh:∀aP,jR c.ph ρ aP→(p aP↔q aP))(h:iQ c ρ p o):iQ c ρ q o:=⟨h.keys,h.rest,fun e=>by obtain⟨ρ',J,U,ao⟩:=h.yes e;exact⟨ρ',J,fun aP=>(U aP).trans (and_congr_right fun ag=>kh aP ag),ao⟩,fun e aP ag br=>h.no e aP ag ((kh aP ag).2 br)⟩
theorem vX(c:bs)(x:Int)(t:T)(z:Int):(c.know x t).ph z=if z=x then some t else c.ph z:=by
 simp only[bs.ph,bs.know,bs.shd,bs.shp,ng];by_cases h:z=x
 ·simp[h]
 ·simp only[if_neg h];exact ite_congr rfl (fun _=>rfl) fun _=>rfl
theorem TL{c:bs}{ρ:Int→Int}(hi:lG c ρ){x:Int}(ad:ρ x=x)(ab:x∈ct c.up)(je:c.ph x=none){t:T}(aL:t.kind≠1)(aJ:∀w,t.occ w=true→w∈ct c.up):
  ∃N o,(∀n,N≤n→ui n x t c=some o)∧iQ c ρ (fun aP=>aP x=t.ap aP) o:=by
 have gB:nY (ct (c.know x t).up) (c.know x t).ph:=by
  intro z u bE;rw[vX]at bE;split at bE
  ·rename_i e;cases bE;subst e;exact⟨aL,aJ,ab⟩
  ·exact hi.sh z u bE
 have kU:∀aP,jR (c.know x t).ph ρ aP↔jR c.ph ρ aP∧aP x=t.ap aP:=by
  intro aP;constructor
  ·rintro⟨J,U⟩;refine⟨⟨J,fun z u bE hu=>U z u bE ?_⟩,U x t ad (by rw[vX];simp)⟩;rw[vX];split
   ·rename_i e;subst e;rw[je]at hu;cases hu
   ·exact hu
  ·rintro⟨⟨J,U⟩,ao⟩;refine⟨J,fun z u bE hu=>?_⟩;rw[vX]at hu;split at hu
   ·rename_i e;subst e;cases hu;exact ao
   ·exact U z u bE hu
 obtain⟨N,a,J,U,ao⟩:=Gr (x:=x) (c:=c.know x t) (t:=t) hi.ru gB aJ;refine⟨N,(!a.found,a.c),fun n aA=>by simp[ui,J n aA],U.keys,U.rest,fun aH=>?_,fun aH aP ag he=>?_⟩
 ·simp only[Bool.not_eq_true']at aH;have aeW:∀u,iP (c.know x t).ph ρ x u→¬mC (iP (c.know x t).ph ρ) u x:=by rintro u ⟨_,dG,w,a6,bB,rfl⟩ aK;rw[vX,if_pos rfl]at a6;cases a6;have:=ao.2 ⟨w,bB,aK⟩;rw[aH]at this;cases this
  obtain⟨kK,ub⟩:=hi.sat
  have afb:=Db (ph:=(c.know x t).ph) (ρ:=ρ) hi.ru.idem (x:=x) (r:=fun z=>(kK z).size) (fun z u bE he=>by refine GO hi.sh ub ?_;obtain⟨ak,dG,w,aC,bj⟩:=he;rw[vX,if_neg bE]at aC;exact⟨ak,dG,w,aC,bj⟩) aeW
  refine⟨ρ,⟨U.ru,?_,?_⟩,fun aP=>?_,.inr ?_⟩
  ·simp only[U.keys,U.ph];exact gB
  ·simp only[U.ph];exact afb
  ·simp only[U.ph];exact kU aP
  ·simp only[wF U];unfold ie;have ak:ct (c.know x t).up=ct c.up:=rfl;rw[ak];have:=Ev (V:=ct c.up) (v:=x) (p:=fun v=>decide (ρ v=v)&& !(c.ph v).isSome) (q:=fun v=>decide (ρ v=v)&& !((c.know x t).ph v).isSome) (fun z _ bE=>by
    rw[vX]at bE;split at bE
    ·simp at bE
    ·exact bE) ab (by simp[ad,je]) (by simp[vX])
   omega
 ·simp only[Bool.not_eq_false']at aH;obtain⟨w,a6,bB⟩:=ao.1 aH;have eO:=(kU aP).2 ⟨ag,he⟩;have:=GP gB eO bB;have a7:=(zW aP a6).2 aL;rw[←he]at a7;rw[←ag.1 w]at this;omega
def iT(ρ:Int→Int)(x y:Int)(v:Int):Int:=if ρ v=y then x else ρ v
section
variable {c:bs} {ρ:Int→Int} {x y:Int}
theorem pQ(ad:ρ x=x)(aM:ρ y=y)(hL:x≠y){z:Int}:iT ρ x y z=z↔ρ z=z∧z≠y:=by
 unfold iT;split
 ·rename_i e;constructor
  ·intro h;subst h;rw[ad]at e;exact absurd e hL
  ·rintro⟨J,U⟩;rw[J]at e;exact absurd e U
 ·rename_i e;constructor
  ·intro h;exact⟨h,fun aC=>e (by rw[aC,aM])⟩
  ·exact fun h=>h.1
theorem jm.join(h:jm c.up ρ)(ad:ρ x=x)(aM:ρ y=y)(hL:x<y)(xL:x∈ct c.up)(rB:y∈ct c.up):jm (c.join x y).up (iT ρ x y):=by
 have ab:ct (c.join x y).up=ct c.up:=Co rB;refine⟨fun v u aJ=>?_,fun v aJ=>?_⟩
 ·rw[ab];have lR:cZ v (eC y x c.up)=some u:=aJ;rw[ng]at lR;by_cases e:v=y
  ·subst e;rw[if_pos rfl]at lR;cases lR;have bq:=(h.mem xL).2;rw[ad]at bq;refine⟨⟨bq,by omega,xL⟩,?_,⟨fun e=>?_,fun e=>by omega⟩⟩
   ·unfold iT;rw[ad,aM,if_pos rfl,if_neg (by omega)]
   ·have:=((pQ ad aM (by omega)).1 e).2;exact absurd rfl this
  ·rw[if_neg e]at lR;obtain⟨bC,a2,a3⟩:=h.up v u lR;refine⟨bC,by unfold iT;rw[a2],?_⟩;rw[pQ ad aM (by omega),a3];exact⟨fun h=>h.1,fun h=>⟨h,e⟩⟩
 ·rw[ab]at aJ;have:=h.no v aJ;unfold iT;rw[this,if_neg fun e=>aJ (by rw[e];exact rB)]
theorem ald{ph:Int→aY T}(ad:ρ x=x)(aM:ρ y=y)(hL:x≠y)(aP:Int→T):(jR ph (iT ρ x y) aP∧∀t,ph y=some t→aP x=t.ap aP)↔(jR ph ρ aP∧aP x=aP y):=by
 constructor
 ·rintro⟨⟨J,U⟩,ao⟩;have JY:aP y=aP x:=by have:=J y;simpa[iT,aM]using this
  refine⟨⟨fun v=>?_,fun z t bE aL=>?_⟩,JY.symm⟩
  ·have:=J v;unfold iT at this;split at this
   ·rename_i e;rw[e,this,JY]
   ·exact this
  ·by_cases e:z=y
   ·subst e;rw[JY];exact ao t aL
   ·exact U z t ((pQ ad aM hL).2 ⟨bE,e⟩) aL
 ·rintro⟨⟨J,U⟩,ao⟩;refine⟨⟨fun v=>?_,fun z t bE aL=>U z t ((pQ ad aM hL).1 bE).1 aL⟩,fun t aL=>by rw[ao];exact U y t aM aL⟩;unfold iT;split
  ·rename_i e;rw[J v,e,ao]
  ·exact J v
theorem akA{V:List Int}{ph:Int→aY T}(gB:nY V ph)(ad:ρ x=x)(aM:ρ y=y)(hL:x≠y){aP:Int→T}(h:jR ph ρ aP){z u:Int}(bE:z≠x)(he:iP ph (iT ρ x y) z u):(if u=x then 0 else(aP u).size)<(if z=x then 0 else(aP z).size):=by
 obtain⟨J,t,w,U,ao,rfl⟩:=he;have aK:=(pQ ad aM hL).1 J;rw[if_neg bE];split
 ·exact T.size_pos _
 ·rename_i cF;have:iT ρ x y w=ρ w:=by
   unfold iT at cF⊢;split
   ·rename_i e;rw[if_pos e]at cF;exact absurd rfl cF
   ·rfl
  rw[this];exact GO gB h ⟨aK.1,t,w,U,ao,rfl⟩
theorem XS(ad:ρ x=x)(aM:ρ y=y)(hL:x≠y)(rB:y∈ct c.up):ie (c.join x y) (iT ρ x y)<ie c ρ:=by have ab:ct (c.join x y).up=ct c.up:=Co rB;have bH:(c.join x y).ph=c.ph:=rfl;unfold ie;rw[ab,bH];have J:=Ev (V:=ct c.up) (v:=y) (p:=fun v=>decide (ρ v=v)) (q:=fun v=>decide (iT ρ x y v=v)) (fun z _ bE=>by simp only[fm]at bE⊢;exact((pQ ad aM hL).1 bE).1) rB (by simp[aM]) (by simp only[gr];exact fun h=>((pQ ad aM hL).1 h).2 rfl);have U:=Eu (V:=ct c.up) (p:=fun v=>decide (ρ v=v)&& !(c.ph v).isSome) (q:=fun v=>decide (iT ρ x y v=v)&& !(c.ph v).isSome) (fun z _ bE=>by simp only[cA,fm]at bE⊢;exact⟨((pQ ad aM hL).1 bE.1).1,bE.2⟩);omega
end
theorem Ac{c:bs}{x:Int}(h:c.shd x=false):c.ph x=none:=by simp[bs.ph,h]
theorem Ad{c:bs}{x:Int}(h:¬c.shd x=false):c.ph x=some (c.shp x):=by simp[bs.ph];simpa using h
theorem Qw{c:bs}{ρ:Int→Int}(hi:lG c ρ){x y:Int}(ad:ρ x=x)(aM:ρ y=y)(hL:x<y)(xL:x∈ct c.up)(rB:y∈ct c.up)
  (rec:∀(bG:bs) (k4:Int→Int),lG bG k4→ct bG.up=ct c.up→ie bG k4<ie c ρ→∀a b:T,(∀w,a.occ w=true→w∈ct c.up)→(∀w,b.occ w=true→w∈ct c.up)→∃N o,(∀n,N≤n→gu n a b bG=some o)∧iQ bG k4 (fun aP=>a.ap aP=b.ap aP) o):
  ∃N o,(∀n,N≤n→qY (gu n) n x y (c.join x y)=some o)∧iQ c ρ (fun aP=>aP x=aP y) o:=by
 have cF:x≠y:=by omega
 have ab:ct (c.join x y).up=ct c.up:=Co rB;have bH:(c.join x y).ph=c.ph:=rfl;have lP:=hi.ru.join ad aM hL xL rB;have c7:=XS (c:=c) ad aM cF rB;have gB:nY (ct (c.join x y).up) (c.join x y).ph:=by rw[ab,bH];exact hi.sh
 obtain⟨kK,ub⟩:=hi.sat
 have E5:∀z u,z≠x→iP c.ph (iT ρ x y) z u→(fun z=>if z=x then 0 else(kK z).size) u<(fun z=>if z=x then 0 else(kK z).size) z:=fun z u bE he=>akA hi.sh ad aM cF ub bE he;have kU:=fun aP=>ald (ph:=c.ph) ad aM cF aP;have SE:∀{cq:bs},ix (iT ρ x y) (c.join x y) cq→(∃aP,jR c.ph (iT ρ x y) aP)→c.ph y=none→iQ c ρ (fun aP=>aP x=aP y) (true,cq):=by intro cq k ag aA;refine⟨k.keys.trans ab,k.rest,fun _=>⟨iT ρ x y,⟨k.ru,by simp only[k.keys,k.ph];exact gB,by simp only[k.ph];exact ag⟩,fun aP=>?_,.inr (by simp only[wF k];exact c7)⟩,fun e=>by cases e⟩;simp only[k.ph,bH];rw[←kU aP];exact⟨fun h=>⟨h,fun t aL=>by rw[aA]at aL;cases aL⟩,fun h=>h.1⟩
 by_cases J:(c.join x y).shd y=false
 ·have Ss:c.ph y=none:=Ac J;by_cases U:(c.join x y).shd x=false
  ·have nz:c.ph x=none:=Ac U;refine⟨0,(true,c.join x y),fun n _=>by simp only[qY,if_pos J,if_pos U],SE (ix.refl lP) ?_ Ss⟩;exact Db lP.idem (x:=x) E5 fun u ⟨_,t,w,q,_⟩=>by rw[nz]at q;cases q
  ·have nA:c.ph x=some ((c.join x y).shp x):=Ad U;obtain⟨N,a,ak,aC,bj⟩:=Gr (x:=x) (c:=c.join x y) (t:=(c.join x y).shp x) lP gB (by rw[ab];exact(hi.sh _ _ nA).2.1);refine⟨N,(!a.found,a.c),fun n aA=>by simp only[qY,if_pos J,if_neg U,ak n aA,nS],?_⟩;cases aH:a.found with
   |false=>refine SE aC (Db lP.idem (x:=x) E5 fun u ⟨_,t,w,a6,bB,bS⟩ aK=>?_) Ss;rw[nA]at a6;cases a6;subst bS;have:=bj.2 ⟨w,bB,aK⟩;rw[aH]at this;cases this
   |true=>refine⟨aC.keys.trans ab,aC.rest,(fun e=>by cases e),fun _ aP ag he=>?_⟩;obtain⟨w,a6,bB⟩:=bj.1 aH;have eO:=((kU aP).2 ⟨ag,he⟩).1;have ao:=GP hi.sh eO bB;have a7:=(zW aP a6).2 (hi.sh _ _ nA).1;rw[←eO.2 x _ ((pQ ad aM cF).2 ⟨ad,cF⟩) nA]at a7;rw[←eO.1 w]at ao;omega
 ·have qu:c.ph y=some ((c.join x y).shp y):=Ad J;by_cases U:(c.join x y).shd x=false
  ·have nz:c.ph x=none:=Ac U;have lM:lG (c.join x y) (iT ρ x y):=⟨lP,gB,Db lP.idem (x:=x) E5 fun u ⟨_,t,w,q,_⟩=>by rw[bH,nz]at q;cases q⟩;obtain⟨N,o,ak,aC⟩:=TL lM (x:=x) ((pQ ad aM cF).2 ⟨ad,cF⟩) (by rw[ab];exact xL) nz (t:=(c.join x y).shp y) (hi.sh _ _ qu).1 (by rw[ab];exact(hi.sh _ _ qu).2.1);refine⟨N,o,fun n aA=>by simp only[qY,if_neg J,if_pos U,ak n aA],aC.keys.trans ab,aC.rest,fun aH=>?_,fun aH aP ag he=>?_⟩
   ·obtain⟨ρ',g1,g2,g3⟩:=aC.yes aH;refine⟨ρ',g1,fun aP=>?_,.inr ?_⟩
    ·rw[g2 aP,←kU aP];refine and_congr_right fun _=>⟨fun h t aL=>by rw[qu]at aL;cases aL;exact h,fun h=>h _ qu⟩
    ·rcases g3 with⟨rfl,g3⟩|g3
     ·have:ie o.2 (iT ρ x y)=ie (c.join x y) (iT ρ x y):=by unfold ie;rw[aC.keys,g3]
      omega
     ·omega
   ·obtain⟨s1,s2⟩:=(kU aP).2 ⟨ag,he⟩;exact aC.no aH aP s1 (s2 _ qu)
  ·have nA:c.ph x=some ((c.join x y).shp x):=Ad U;obtain⟨hC,a,ak,aC,bj⟩:=Gr (x:=x) (c:=c.join x y) (t:=(c.join x y).shp y) lP gB (by rw[ab];exact(hi.sh _ _ qu).2.1);cases aH:a.found with
   |true=>refine⟨hC,(false,a.c),fun n aA=>by simp only[qY,if_neg J,if_neg U,ak n aA,kM,aH,if_true],aC.keys.trans ab,aC.rest,(fun e=>by cases e),fun _ aP ag he=>?_⟩;obtain⟨w,a6,bB⟩:=bj.1 aH;obtain⟨eO,o8⟩:=(kU aP).2 ⟨ag,he⟩;have ao:=GP hi.sh eO bB;have a7:=(zW aP a6).2 (hi.sh _ _ qu).1;rw[←o8 _ qu]at a7;rw[←eO.1 w]at ao;omega
   |false=>
    have SH:a.c.shp x=(c.join x y).shp x:=aC.shp x;obtain⟨iR,b,f1,f2,f3⟩:=Gr (x:=x) (c:=a.c) (t:=(c.join x y).shp x) aC.ru (by rw[aC.keys,aC.ph];exact gB) (by rw[aC.keys,ab];exact(hi.sh _ _ nA).2.1);have dX:=aC.trans f2;cases a8:b.found with
    |true=>refine⟨max hC iR,(false,b.c),fun n aA=>by simp only[qY,if_neg J,if_neg U,ak n (by omega),kM,aH,SH,f1 n (by omega),a8,if_true,gT,if_false],dX.keys.trans ab,dX.rest,(fun e=>by cases e),fun _ aP ag he=>?_⟩;obtain⟨w,a6,bB⟩:=f3.1 a8;obtain⟨eO,_⟩:=(kU aP).2 ⟨ag,he⟩;rw[aC.ph]at bB;have ao:=GP hi.sh eO bB;have a7:=(zW aP a6).2 (hi.sh _ _ nA).1;rw[←eO.2 x _ ((pQ ad aM cF).2 ⟨ad,cF⟩) nA]at a7;rw[←eO.1 w]at ao;omega
    |false=>
     have zh:lG b.c (iT ρ x y):=by refine⟨dX.ru,by rw[dX.keys,dX.ph];exact gB,?_⟩;rw[dX.ph];refine Db lP.idem (x:=x) E5 fun u ⟨_,t,w,a6,bB,bS⟩ aK=>?_;rw[bH,nA]at a6;cases a6;subst bS;have:=f3.2 ⟨w,bB,by rw[aC.ph];exact aK⟩;rw[a8]at this;cases this
     obtain⟨yx,o,g1,g2⟩:=rec b.c (iT ρ x y) zh (dX.keys.trans ab) (by rw[wF dX];exact c7) ((c.join x y).shp x) ((c.join x y).shp y) (hi.sh _ _ nA).2.1 (hi.sh _ _ qu).2.1;refine⟨max (max hC iR) yx,o,fun n aA=>?_,g2.keys.trans (dX.keys.trans ab),?_,fun cS=>?_,fun cS aP ag he=>?_⟩
     ·simp only[qY,if_neg J,if_neg U,ak n (by omega),kM,aH,SH,f1 n (by omega),a8,gT,if_false,dX.shp];exact g1 n (by omega)
     ·rw[g2.rest.1,g2.rest.2.1,g2.rest.2.2];exact dX.rest
     ·obtain⟨ρ',a6,bB,bS⟩:=g2.yes cS;refine⟨ρ',a6,fun aP=>?_,.inr ?_⟩
      ·rw[bB aP,dX.ph,bH,←kU aP];refine and_congr_right fun h=>?_;have:=h.2 x _ ((pQ ad aM cF).2 ⟨ad,cF⟩) nA;rw[←this];exact⟨fun h t aL=>by rw[qu]at aL;cases aL;exact h,fun h=>h _ qu⟩
      ·have:ie b.c (iT ρ x y)<ie c ρ:=by rw[wF dX];exact c7
       rcases bS with⟨rfl,bS⟩|bS
       ·have:ie o.2 (iT ρ x y)=ie b.c (iT ρ x y):=by unfold ie;rw[g2.keys,bS]
        omega
       ·omega
     ·obtain⟨s1,s2⟩:=(kU aP).2 ⟨ag,he⟩;refine g2.no cS aP (by rw[dX.ph];exact s1) ?_;have:=s1.2 x _ ((pQ ad aM cF).2 ⟨ad,cF⟩) nA;rw[←this];exact s2 _ qu
def tD:T→T→Nat
 | .var _,_=>1
 |_,.var _=>2
 |_,_=>0
theorem ZI(K:Nat):∀(m:Nat) (c:bs) (ρ:Int→Int) (a b:T) (kK:Int→T),lG c ρ→jR c.ph ρ kK→(∀w,a.occ w=true→w∈ct c.up)→(∀w,b.occ w=true→w∈ct c.up)→ie c ρ=K→((a.ap kK).size+(b.ap kK).size)*3+tD a b=m→
  ∃N o,(∀n,N≤n→gu n a b c=some o)∧iQ c ρ (fun aP=>a.ap aP=b.ap aP) o:=by
 induction K using Nat.strongRecOn with
 |ind K afz=>
 have SR:∀(bG:bs) (k4:Int→Int),lG bG k4→ie bG k4<K→∀a b:T,(∀w,a.occ w=true→w∈ct bG.up)→(∀w,b.occ w=true→w∈ct bG.up)→∃N o,(∀n,N≤n→gu n a b bG=some o)∧iQ bG k4 (fun aP=>a.ap aP=b.ap aP) o:=by
  intro bG k4 J U a b bD ae;obtain⟨aP,hp⟩:=J.sat
  exact afz _ U _ bG k4 a b aP J hp bD ae rfl rfl
 intro m;induction m using Nat.strongRecOn with
 |ind m zC=>
 intro c ρ a b kK hi ub bD ae c7 hm;have aeF:∀{a b:T},(∀n,gu (n+1) a b c=some (decide (a=b),c))→(∀aP,a.ap aP=a)→(∀aP,b.ap aP=b)→∃N o,(∀n,N≤n→gu n a b c=some o)∧iQ c ρ (fun aP=>a.ap aP=b.ap aP) o:=by
  intro a b J U ao;refine⟨1,(decide (a=b),c),fun n aA=>?_,rfl,⟨rfl,rfl,rfl⟩,fun h=>?_,fun h aP _ he=>?_⟩
  ·obtain⟨n',rfl⟩:∃n',n=n'+1:=⟨n-1,by omega⟩;exact J n'
  ·simp only[fm]at h;subst h;exact⟨ρ,hi,fun aP=>⟨fun h=>⟨h,rfl⟩,fun h=>h.1⟩,.inl ⟨rfl,rfl⟩⟩
  ·simp only[gr]at h;rw[U,ao]at he;exact h he
 have RO:∀{a b:T},(∀n,gu (n+1) a b c=some (decide (a=b),c))→(∀aP,a.ap aP≠b.ap aP)→a≠b→∃N o,(∀n,N≤n→gu n a b c=some o)∧iQ c ρ (fun aP=>a.ap aP=b.ap aP) o:=by intro a b J U ao;refine⟨1,(false,c),fun n aA=>?_,rfl,⟨rfl,rfl,rfl⟩,(fun h=>by cases h),fun _ aP _ he=>U aP he⟩;obtain⟨n',rfl⟩:∃n',n=n'+1:=⟨n-1,by omega⟩;rw[J n',k8 ao]
 have vA:∀(i:Int) (b:T),b.kind≠1→(∀n,gu (n+1) (.var i) b c=(rt c i).bind fun p=>if p.2.shd p.1=false then ui n p.1 b p.2 else gu n (p.2.shp p.1) b p.2)→i∈ct c.up→(∀w,b.occ w=true→w∈ct c.up)→((kK i).size+(b.ap kK).size)*3<m→∃N o,(∀n,N≤n→gu n (.var i) b c=some o)∧iQ c ρ (fun aP=>aP i=b.ap aP) o:=by
  intro i b n9 RR vI ae bA;obtain⟨bG,ak,aZ⟩:=sY hi.ru vI;have lM:=hi.sm aZ;by_cases ag:bG.shd (ρ i)=false
  ·obtain⟨N,o,aC,ds⟩:=TL lM (x:=ρ i) (hi.ru.idem i) (by rw[aZ.keys];exact(hi.ru.mem vI).1) (Ac ag) n9 (by rw[aZ.keys];exact ae);refine⟨N+1,o,fun n aA=>?_,iQ.sm aZ (iQ.congr (fun aP h=>?_) ds)⟩
   ·obtain⟨n',rfl⟩:∃n',n=n'+1:=⟨n-1,by omega⟩;rw[RR,ak];simp only[kM,if_pos ag];exact aC n' (by omega)
   ·rw[←h.1 i]
  ·have nA:bG.ph (ρ i)=some (bG.shp (ρ i)):=Ad ag;have kU:∀aP,jR bG.ph ρ aP→aP i=(bG.shp (ρ i)).ap aP:=fun aP h=>by rw[h.1 i];exact h.2 _ _ (hi.ru.idem i) nA
   have ho:=(lM.sh _ _ nA).1;have aek:tD (bG.shp (ρ i)) b=0:=by cases e:bG.shp (ρ i)<;>cases b<;>simp_all[tD,T.kind]
   have SO:jR bG.ph ρ kK:=by rw[aZ.ph];exact ub
   obtain⟨N,o,aC,ds⟩:=zC (((bG.shp (ρ i)).ap kK).size*3+(b.ap kK).size*3) (by rw[←kU kK SO];omega) bG ρ (bG.shp (ρ i)) b kK lM SO (lM.sh _ _ nA).2.1 (by rw[aZ.keys];exact ae) (by rw[wF aZ];exact c7) (by rw[aek];omega);refine⟨N+1,o,fun n aA=>?_,iQ.sm aZ (iQ.congr (fun aP h=>?_) ds)⟩
   ·obtain⟨n',rfl⟩:∃n',n=n'+1:=⟨n-1,by omega⟩;rw[RR,ak];simp only[kM,if_neg ag];exact aC n' (by omega)
   ·rw[kU aP h]
 have Cd:∀(i j:Int),i∈ct c.up→j∈ct c.up→∃N o,(∀n,N≤n→gu n (.var i) (.var j) c=some o)∧iQ c ρ (fun aP=>aP i=aP j) o:=by
  intro i j vI Fw;obtain⟨bG,ak,aZ⟩:=sY hi.ru vI;obtain⟨ch,aC,bI⟩:=sY aZ.ru (by rw[aZ.keys];exact Fw:j∈ct bG.up);have sJ:=aZ.trans bI;have hl:=hi.sm sJ;have vm:ρ i∈ct ch.up:=by rw[sJ.keys];exact(hi.ru.mem vI).1
  have R8:ρ j∈ct ch.up:=by rw[sJ.keys];exact(hi.ru.mem Fw).1
  have vt:∀(bG:bs) (k4:Int→Int),lG bG k4→ct bG.up=ct ch.up→ie bG k4<ie ch ρ→∀a b:T,(∀w,a.occ w=true→w∈ct ch.up)→(∀w,b.occ w=true→w∈ct ch.up)→∃N o,(∀n,N≤n→gu n a b bG=some o)∧iQ bG k4 (fun aP=>a.ap aP=b.ap aP) o:=fun c3 ρ3 J U ao a b bD ae=>SR c3 ρ3 J (by rw[wF sJ,c7]at ao;exact ao) a b (by rw[U];exact bD) (by rw[U];exact ae);rcases Int.lt_trichotomy (ρ i) (ρ j)with h|h|h
  ·obtain⟨N,o,bj,iK⟩:=Qw hl (hi.ru.idem i) (hi.ru.idem j) h vm R8 vt;refine⟨N+1,o,fun n aA=>?_,iQ.sm sJ (iQ.congr (fun aP h=>?_) iK)⟩
   ·obtain⟨n',rfl⟩:∃n',n=n'+1:=⟨n-1,by omega⟩;simp only[gu,ak,aC,kM];rw[if_neg (by omega),if_neg (by omega)];exact bj n' (by omega)
   ·rw[h.1 i,h.1 j]
  ·refine⟨1,(true,ch),fun n aA=>?_,sJ.keys,sJ.rest,fun _=>⟨ρ,hl,fun aP=>?_,.inl ⟨rfl,sJ.ph⟩⟩,fun e=>by cases e⟩
   ·obtain⟨n',rfl⟩:∃n',n=n'+1:=⟨n-1,by omega⟩;simp only[gu,ak,aC,kM,if_pos h]
   ·simp only[sJ.ph];exact⟨fun ag=>⟨ag,by rw[ag.1 i,ag.1 j,h]⟩,fun ag=>ag.1⟩
  ·obtain⟨N,o,bj,iK⟩:=Qw hl (hi.ru.idem j) (hi.ru.idem i) h R8 vm vt;refine⟨N+1,o,fun n aA=>?_,iQ.sm sJ (iQ.congr (fun aP h=>?_) iK)⟩
   ·obtain⟨n',rfl⟩:∃n',n=n'+1:=⟨n-1,by omega⟩;simp only[gu,ak,aC,kM];rw[if_neg (by omega),if_pos h];exact bj n' (by omega)
   ·rw[h.1 i,h.1 j];exact⟨Eq.symm,Eq.symm⟩
 have zv:∀(a:T) (j:Int),a.kind≠1→(∀n,gu (n+1) a (.var j) c=gu n (.var j) a c)→(∀n,gu (n+1) (.var j) a c=(rt c j).bind fun p=>if p.2.shd p.1=false then ui n p.1 a p.2 else gu n (p.2.shp p.1) a p.2)→j∈ct c.up→(∀w,a.occ w=true→w∈ct c.up)→((kK j).size+(a.ap kK).size)*3<m→∃N o,(∀n,N≤n→gu n a (.var j) c=some o)∧iQ c ρ (fun aP=>a.ap aP=aP j) o:=by intro a j J U ao Fw bD bA;obtain⟨N,o,ak,cU⟩:=vA j a J ao Fw bD bA;refine⟨N+1,o,fun n aA=>?_,iQ.congr (fun aP _=>⟨Eq.symm,Eq.symm⟩) cU⟩;obtain⟨n',rfl⟩:∃n',n=n'+1:=⟨n-1,by omega⟩;rw[U];exact ak n' (by omega)
 cases a with
 |var i=>
  have vI:i∈ct c.up:=bD i (by simp[T.occ]);cases b with
  |var j=>exact Cd i j vI (ae j (by simp[T.occ]))
  |_=>exact vA i _ (by simp[T.kind]) (fun n=>rfl) vI ae (by simp only[T.ap,tD]at hm⊢;omega)
 |pair bC a2=>
  cases b with
  |var j=>exact zv _ j (by simp[T.kind]) (fun n=>rfl) (fun n=>rfl) (ae j (by simp[T.occ])) bD (by simp only[T.ap,tD]at hm⊢;omega)
  |pair b8 b3=>
   have sw:∀p q:T,tD p q≤2:=fun p q=>by cases p<;>cases q<;>simp[tD]
   have kR:∀w,bC.occ w=true→w∈ct c.up:=fun w hw=>bD w (by simp[T.occ,hw]);have pG:∀w,a2.occ w=true→w∈ct c.up:=fun w hw=>bD w (by simp[T.occ,hw]);have lh:∀w,b8.occ w=true→w∈ct c.up:=fun w hw=>ae w (by simp[T.occ,hw]);have o6:∀w,b3.occ w=true→w∈ct c.up:=fun w hw=>ae w (by simp[T.occ,hw]);simp only[T.ap,T.size,tD]at hm;have f1:=sw bC b8;have f2:=sw a2 b3;obtain⟨hC,gR,ak,cU⟩:=zC _ (by rw[←hm];omega) c ρ bC b8 kK hi ub kR lh c7 rfl;obtain⟨ahf,bG⟩:=gR;cases ahf with
   |false=>refine⟨hC+1,(false,bG),fun n aA=>?_,cU.keys,cU.rest,(fun e=>by cases e),fun _ aP ag he=>cU.no rfl aP ag (by simp only[T.ap,T.pair.injEq]at he;exact he.1)⟩;obtain⟨n',rfl⟩:∃n',n=n'+1:=⟨n-1,by omega⟩;simp only[gu,ak n' (by omega),kM,gT,if_false]
   |true=>
    obtain⟨k4,a6,bB,bS⟩:=cU.yes rfl;simp only at a6 bB bS;have xk:ct bG.up=ct c.up:=cU.keys;have B5:∃iR gJ,(∀n,iR≤n→gu n a2 b3 bG=some gJ)∧iQ bG k4 (fun aP=>a2.ap aP=b3.ap aP) gJ:=by
     rcases bS with⟨rfl,bS⟩|bS
     ·exact zC _ (by rw[←hm];omega) bG k4 a2 b3 kK a6 (by rw[bS];exact ub) (by rw[xk];exact pG) (by rw[xk];exact o6) (by unfold ie;rw[xk,bS];exact c7) rfl
     ·exact SR bG k4 a6 (by omega) a2 b3 (by rw[xk];exact pG) (by rw[xk];exact o6)
    obtain⟨iR,gJ,aC,ds⟩:=B5;refine⟨max hC iR+1,gJ,fun n aA=>?_,ds.keys.trans xk,?_,fun aH=>?_,fun aH aP ag he=>?_⟩
    ·obtain⟨n',rfl⟩:∃n',n=n'+1:=⟨n-1,by omega⟩;simp only[gu,ak n' (by omega),kM,if_true];exact aC n' (by omega)
    ·rw[ds.rest.1,ds.rest.2.1,ds.rest.2.2];exact cU.rest
    ·obtain⟨ρ2,s1,s2,s3⟩:=ds.yes aH;refine⟨ρ2,s1,fun aP=>?_,?_⟩
     ·rw[s2 aP,bB aP];simp only[T.ap,T.pair.injEq,and_assoc]
     ·rcases bS with⟨rfl,bS⟩|bS
      ·rcases s3 with⟨rfl,s3⟩|s3
       ·exact .inl ⟨rfl,s3.trans bS⟩
       ·have:ie bG k4=ie c k4:=by unfold ie;rw[xk,bS]
        exact .inr (by omega)
      ·rcases s3 with⟨rfl,s3⟩|s3
       ·have:ie gJ.2 ρ2=ie bG ρ2:=by unfold ie;rw[ds.keys,s3]
        exact .inr (by omega)
       ·exact .inr (by omega)
    ·simp only[T.ap,T.pair.injEq]at he;exact ds.no aH aP ((bB aP).2 ⟨ag,he.1⟩) he.2
  |_=>exact RO (fun n=>rfl) (fun aP=>by simp[T.ap]) (by simp)
 |_=>
  cases b with
  |var j=>exact zv _ j (by simp[T.kind]) (fun n=>rfl) (fun n=>rfl) (ae j (by simp[T.occ])) bD (by simp only[T.ap,tD]at hm⊢;omega)
  |_=>first|exact aeF (fun n=>rfl) (fun aP=>rfl) (fun aP=>rfl)|exact RO (fun n=>rfl) (fun aP=>by simp[T.ap]) (by simp)
end Go.Pv
namespace Go.Pv
open Go
def yp(rec:Int→bs→aY (Bool×bs))(v:Int)(a:bs×Bool):aY (bs×Bool):=if a.2=true then(rt a.1 v).bind fun p=>(rec p.1 p.2).map fun q=>(q.2,q.1)else some a
def yg(v:Int)(c:bs):aY (Int×bs):=(rt c v).map fun p=>(p.2.sz p.1,p.2)
def bs.grey(c:bs)(x:Int):bs:={c with color:=eC x 1 c.color,size:=eC x 1 c.size}
def bs.black(c:bs)(x:Int):bs:={c with color:=eC x 2 c.color}
def p2:Nat→Int→bs→aY (Bool×bs)
 |0,_,_=>none
 |n+1,x,c=>if c.col x=2 then some (true,c)else if c.col x=1 then some (false,c)else
   if(c.grey x).shd x=false then some (true,(c.grey x).black x)else
   (((c.grey x).shp x).foldO (yp (p2 n)) (c.grey x,true)).bind fun a=>if a.2=false then some (false,a.1)else
   (((a.1.shp x).sizeO yg a.1).map fun p=>(true,{p.2 with size:=eC x p.1 p.2.size}.black x))
def AQ(rec:Int→bs→aY (T×bs))(v:Int)(c:bs):aY (T×bs):=(rt c v).bind fun p=>rec p.1 p.2
def p1:Nat→Int→bs→aY (T×bs)
 |0,_,_=>none
 |n+1,x,c=>match cZ x c.full with
  |some t=>some (t,c)
  |none=>if c.shd x=false then some (.var x,{c with full:=eC x (.var x) c.full})else
   ((c.shp x).mapO (AQ (p1 n)) c).map fun p=>(p.1,{p.2 with full:=eC x p.1 p.2.full})
def rP(n:Nat):List Int→bs→List Int→aY (aY (List Int)×bs)
 |[],c,out=>some (some out,c)
 |v::bc,c,out=>(rt c v).bind fun p=>(p2 n p.1 p.2).bind fun q=>if q.1=false then some (none,q.2)else
   if p.1=v∧q.2.shd p.1=false then rP n bc q.2 out else
   if 5000<q.2.sz p.1∨400<out.length+1 then some (none,q.2)else rP n bc q.2 (out++[v])
def yh(n:Nat):List Int→bs→aY (List au×bs)
 |[],c=>some ([],c)
 |v::bc,c=>(rt c v).bind fun p=>(p1 n p.1 p.2).bind fun q=>(yh n bc q.2).map fun r=>(⟨v,q.1⟩::r.1,r.2)
def Df(n:Nat)(bc:List Int)(c:bs):aY (aY (List au)):=(rP n bc c []).bind fun a=>match a.1 with
 |none=>some none
 |some out=>(yh n out a.2).map fun r=>some r.1
def pC(n:Nat):List (T×T)→bs→aY (Bool×bs)
 |[],c=>some (true,c)
 |e::es,c=>(zN e.1 c).bind fun bG=>(zN e.2 bG).bind fun ch=>(gu n e.1 e.2 ch).bind fun p=>if p.1=true then pC n es p.2 else some (false,p.2)
theorem lG.rank{c:bs}{ρ:Int→Int}(h:lG c ρ):∃r:Int→Nat,∀z u,iP c.ph ρ z u→r u<r z:=by
 obtain⟨aP,hp⟩:=h.sat
 exact⟨fun z=>(aP z).size,fun z u he=>GO h.sh hp he⟩
structure tk (V:List Int) (ph:Int→aY T) (ρ:Int→Int) (c:bs):Prop where
 ru:jm c.up ρ
 keys:ct c.up=V
 ph:c.ph=ph
theorem tk.sm{V:List Int}{ph:Int→aY T}{ρ:Int→Int}{c cq:bs}(h:tk V ph ρ c)(k:ix ρ c cq):tk V ph ρ cq:=⟨k.ru,k.keys.trans h.keys,k.ph.trans h.ph⟩
def cut(n:Nat):Int:=if 5001<(n:Int)then 5001 else n
section
variable {V:List Int} {ph:Int→aY T} {ρ:Int→Int} {r:Int→Nat}
theorem ak3(DB:Int→T):∀(t:T) (c:bs),tk V ph ρ c→(∀w,t.occ w=true→w∈V∧c.sz (ρ w)=cut (DB w).size)→∃cq,t.sizeO yg c=some (cut (t.ap DB).size,cq)∧ix ρ c cq:=by
 intro t;induction t with
 |var v=>
  intro c h aL;obtain⟨aJ,bE⟩:=aL v (by simp[T.occ]);obtain⟨bG,J,U⟩:=sY h.ru (by rw[h.keys];exact aJ:v∈ct c.up);refine⟨bG,?_,U⟩;have:bG.sz (ρ v)=cut (DB v).size:=by rw[←bE,U.eq];rfl
  simp only[T.sizeO,yg,J,nS,this,T.ap,dE,jj,and_true];unfold cut;split<;>omega
 |pair a b dM dN=>
  intro c h aL;obtain⟨bG,J,aZ⟩:=dM c h fun w hw=>aL w (by simp[T.occ,hw]);obtain⟨ch,U,bI⟩:=dN bG (h.sm aZ) fun w hw=>⟨(aL w (by simp[T.occ,hw])).1,by rw[←(aL w (by simp[T.occ,hw])).2,aZ.eq];rfl⟩;have ae:=T.size_pos (b.ap DB);simp only[T.sizeO,J,kM,T.ap,T.size];by_cases aw:5000<cut (a.ap DB).size
  ·rw[if_pos aw];refine⟨bG,?_,aZ⟩;simp only[dE,jj,and_true];unfold cut at aw⊢;split at aw<;>split<;>(try split)<;>omega
  ·rw[if_neg aw,U];refine⟨ch,?_,aZ.trans bI⟩;simp only[nS,dE,jj,and_true];unfold cut at aw⊢;split at aw<;>(repeat' split)<;>omega
 |_=>intro c h aL;exact⟨c,by simp[T.sizeO,T.ap,T.size,cut],ix.refl h.ru⟩
structure qc (V:List Int) (ph:Int→aY T) (ρ:Int→Int) (r:Int→Nat) (d:Nat) (c:bs):Prop where
 fin:tk V ph ρ c
 col:∀z,r z<d→c.col z=0∨(c.col z=2∧c.sz z=cut (gQ ph ρ r z).size)
structure mF (ph:Int→aY T) (ρ:Int→Int) (r:Int→Nat) (d:Nat) (c cq:bs):Prop where
 full:cq.full=c.full
 hi:∀z,d≤r z→cq.col z=c.col z∧cq.sz z=c.sz z
 lo:∀z,c.col z=2→cq.col z=2∧cq.sz z=c.sz z
theorem mF.refl{c:bs}{d:Nat}:mF ph ρ r d c c:=⟨rfl,fun _ _=>⟨rfl,rfl⟩,fun _ h=>⟨h,rfl⟩⟩
theorem mF.trans{a b c:bs}{d:Nat}(h:mF ph ρ r d a b)(k:mF ph ρ r d b c):mF ph ρ r d a c:=⟨k.full.trans h.full,fun z bE=>⟨(k.hi z bE).1.trans (h.hi z bE).1,(k.hi z bE).2.trans (h.hi z bE).2⟩,fun z bE=>⟨(k.lo z (h.lo z bE).1).1,(k.lo z (h.lo z bE).1).2.trans (h.lo z bE).2⟩⟩
theorem mF.mono{a b:bs}{d b9:Nat}(aR:d≤b9)(h:mF ph ρ r d a b):mF ph ρ r b9 a b:=⟨h.full,fun z bE=>h.hi z (by omega),h.lo⟩
theorem mF.sm{c cq:bs}{d:Nat}(k:ix ρ c cq):mF ph ρ r d c cq:=by
 have ak:∀z,cq.col z=c.col z:=fun z=>by rw[k.eq];rfl
 have aC:∀z,cq.sz z=c.sz z:=fun z=>by rw[k.eq];rfl
 exact⟨k.rest.2.2,fun z _=>⟨ak z,aC z⟩,fun z h=>⟨by rw[ak];exact h,aC z⟩⟩
theorem qc.sm{c cq:bs}{d:Nat}(h:qc V ph ρ r d c)(k:ix ρ c cq):qc V ph ρ r d cq:=by
 have ak:∀z,cq.col z=c.col z:=fun z=>by rw[k.eq];rfl
 have aC:∀z,cq.sz z=c.sz z:=fun z=>by rw[k.eq];rfl
 exact⟨h.fin.sm k,fun z bE=>by rw[ak,aC];exact h.col z bE⟩
theorem anm(gB:nY V ph)(eU:∀v,ρ (ρ v)=ρ v)(aK:∀z u,iP ph ρ z u→r u<r z)(d:Nat):∀(x:Int) (c:bs),r x<d→ρ x=x→x∈V→qc V ph ρ r d c→
  ∃N cq,(∀n,N≤n→p2 n x c=some (true,cq))∧qc V ph ρ r d cq∧mF ph ρ r (r x+1) c cq∧cq.col x=2∧cq.sz x=cut (gQ ph ρ r x).size:=by
 induction d using Nat.strongRecOn with
 |ind d bN=>
 intro x c aR ad jW hw;rcases hw.col x aR with bq|⟨U,ao⟩;rotate_left
 ·refine⟨1,c,fun n aA=>?_,hw,mF.refl,U,ao⟩;obtain⟨n',rfl⟩:∃n',n=n'+1:=⟨n-1,by omega⟩;simp only[p2,if_pos U]
 have w6:∀z,(c.grey x).col z=if z=x then 1 else c.col z:=fun z=>by simp only[bs.grey,bs.col,ng];split<;>rfl
 have Bv:∀z,(c.grey x).sz z=if z=x then 1 else c.sz z:=fun z=>by simp only[bs.grey,bs.sz,ng];split<;>rfl
 have y2:tk V ph ρ (c.grey x):=⟨hw.fin.ru,hw.fin.keys,hw.fin.ph⟩;have afr:qc V ph ρ r (r x) (c.grey x):=⟨y2,fun z bE=>by
  have cF:z≠x:=fun e=>by subst e;omega
  rw[w6,Bv,if_neg cF,if_neg cF];exact hw.col z (by omega)⟩
 have BW:¬c.col x=2:=by omega
 have rk:¬c.col x=1:=by omega
 have fA:∀(e:bs) (z:Int),(e.black x).col z=(if z=x then 2 else e.col z):=fun e z=>by simp only[bs.black,bs.col,ng];split<;>rfl
 by_cases ag:(c.grey x).shd x=false
 ·have je:ph x=none:=by rw[←y2.ph];exact Ac ag
  have a8:gQ ph ρ r x= .var x:=by rw[Bu (by rw[ad];exact je),ad]
  have eh:∀z,((c.grey x).black x).sz z=if z=x then 1 else c.sz z:=Bv
  refine⟨1,(c.grey x).black x,fun n aA=>?_,⟨⟨y2.ru,y2.keys,y2.ph⟩,fun z bE=>?_⟩,⟨rfl,fun z bE=>?_,fun z bE=>?_⟩,?_,?_⟩
  ·obtain⟨n',rfl⟩:∃n',n=n'+1:=⟨n-1,by omega⟩;simp only[p2,if_neg BW,if_neg rk,if_pos ag]
  ·rw[fA,eh,w6];by_cases e:z=x
   ·subst e;simp only[if_true,a8];exact .inr ⟨trivial,by simp[T.size,cut]⟩
   ·simp only[if_neg e];exact hw.col z bE
  ·have e:z≠x:=fun e=>by subst e;omega
   rw[fA,eh,w6];simp only[if_neg e];exact⟨trivial,trivial⟩
  ·have e:z≠x:=fun e=>by subst e;omega
   rw[fA,eh,w6];simp only[if_neg e];exact⟨bE,trivial⟩
  ·rw[fA,if_pos rfl]
  ·rw[eh,if_pos rfl,a8];simp[T.size,cut]
 ·have je:ph x=some ((c.grey x).shp x):=by rw[←y2.ph];exact Ad ag
  obtain⟨g1,g2,g3⟩:=gB _ _ je;have aem:∀(t:T) (e:bs),(∀w,t.occ w=true→((c.grey x).shp x).occ w=true)→qc V ph ρ r (r x) e→∃N fE,(∀n,N≤n→t.foldO (yp (p2 n)) (e,true)=some (fE,true))∧qc V ph ρ r (r x) fE∧mF ph ρ r (r x) e fE∧∀w,t.occ w=true→fE.col (ρ w)=2∧fE.sz (ρ w)=cut (gQ ph ρ r w).size:=by
   intro t;induction t with
   |var v=>intro e mT he;have aJ:=g2 v (mT v (by simp[T.occ]));have vu:r (ρ v)<r x:=aK x (ρ v) ⟨ad,_,v,je,mT v (by simp[T.occ]),rfl⟩;obtain⟨ak,a6,aZ⟩:=sY he.fin.ru (by rw[he.fin.keys];exact aJ:v∈ct e.up);obtain⟨N,aC,bB,di,ds,ch,s2⟩:=bN (r x) aR (ρ v) ak vu (eU v) (by rw[←he.fin.keys];exact(he.fin.ru.mem (by rw[he.fin.keys];exact aJ)).1) (he.sm aZ);refine⟨N,aC,fun n aA=>by simp[T.foldO,yp,a6,bB n aA],di,(mF.sm aZ).trans (ds.mono (by omega)),fun w hw=>?_⟩;simp[T.occ]at hw;subst hw;exact⟨ch,by rw[s2,←y3 eU]⟩
   |pair a b dM dN=>
    intro e mT he;obtain⟨hC,ak,a6,ea,cU,s1⟩:=dM e (fun w hw=>mT w (by simp[T.occ,hw])) he;obtain⟨iR,aC,bB,di,ds,s2⟩:=dN ak (fun w hw=>mT w (by simp[T.occ,hw])) ea;refine⟨max hC iR,aC,fun n aA=>by simp only[T.foldO];rw[a6 n (by omega)];exact bB n (by omega),di,cU.trans ds,fun w hw=>?_⟩;simp only[T.occ,lF]at hw;rcases hw with hw|hw
    ·obtain⟨kJ,z2⟩:=s1 w hw;exact⟨(ds.lo _ kJ).1,by rw[(ds.lo _ kJ).2];exact z2⟩
    ·exact s2 w hw
   |_=>intro e _ he;exact⟨0,e,fun n _=>rfl,he,mF.refl,fun w hw=>by simp[T.occ]at hw⟩
  obtain⟨N,e,a6,ea,cU,s1⟩:=aem ((c.grey x).shp x) (c.grey x) (fun w h=>h) afr;have afc:e.shp x=(c.grey x).shp x:=by
   have J:e.ph x=some ((c.grey x).shp x):=by rw[ea.fin.ph];exact je
   unfold bs.ph at J;split at J
   ·exact fl J
   ·cases J
  obtain⟨aC,bB,bI⟩:=ak3 (V:=V) (ph:=ph) (ρ:=ρ) (gQ ph ρ r) ((c.grey x).shp x) e ea.fin (fun w hw=>⟨g2 w hw,(s1 w hw).2⟩);have mU:gQ ph ρ r x=((c.grey x).shp x).ap (gQ ph ρ r):=y4 eU aK (by rw[ad];exact je);have E0:=cU.trans (mF.sm (ph:=ph) (r:=r) (d:=r x) bI);have di:=ea.sm bI;let bj:bs:={aC with size:=eC x (cut (gQ ph ρ r x).size) aC.size}.black x
  have c3:∀z,bj.col z=if z=x then 2 else aC.col z:=fun z=>fA _ z
  have s3:∀z,bj.sz z=if z=x then cut (gQ ph ρ r x).size else aC.sz z:=fun z=>by show(cZ z (eC x _ aC.size)).getD 0=_;rw[ng];split<;>rfl
  refine⟨N+1,bj,fun n aA=>?_,⟨⟨di.fin.ru,di.fin.keys,di.fin.ph⟩,fun z bE=>?_⟩,⟨E0.full,fun z bE=>?_,fun z bE=>?_⟩,by rw[c3,if_pos rfl],by rw[s3,if_pos rfl]⟩
  ·obtain⟨n',rfl⟩:∃n',n=n'+1:=⟨n-1,by omega⟩;simp only[p2,if_neg BW,if_neg rk,if_neg ag,a6 n' (by omega),kM,Bool.true_eq_false,if_false,afc,bB,nS,mU,bj]
  ·rw[c3,s3];by_cases nt:z=x
   ·subst nt;simp only[if_true];exact .inr ⟨trivial,trivial⟩
   ·simp only[if_neg nt];by_cases bA:r z<r x
    ·exact di.col z bA
    ·obtain⟨bC,a2⟩:=E0.hi z (by omega);rw[bC,a2,w6,Bv,if_neg nt,if_neg nt];exact hw.col z bE
  ·have nt:z≠x:=fun e=>by subst e;omega
   obtain⟨bC,a2⟩:=E0.hi z (by omega);rw[c3,s3,if_neg nt,if_neg nt,bC,a2,w6,Bv,if_neg nt,if_neg nt];exact⟨rfl,rfl⟩
  ·have nt:z≠x:=fun e=>by subst e;omega
   obtain⟨bC,a2⟩:=E0.lo z (by rw[w6,if_neg nt];exact bE);rw[c3,s3,if_neg nt,if_neg nt,bC,a2,Bv,if_neg nt];exact⟨rfl,rfl⟩
structure qT (V:List Int) (ph:Int→aY T) (ρ:Int→Int) (r:Int→Nat) (c:bs):Prop where
 fin:tk V ph ρ c
 full:∀x t,cZ x c.full=some t→t=gQ ph ρ r x
theorem qT.sm{c cq:bs}(h:qT V ph ρ r c)(k:ix ρ c cq):qT V ph ρ r cq:=⟨h.fin.sm k,by rw[k.rest.2.2];exact h.full⟩
theorem ank(gB:nY V ph)(eU:∀v,ρ (ρ v)=ρ v)(aK:∀z u,iP ph ρ z u→r u<r z)(d:Nat):∀(x:Int) (c:bs),r x<d→ρ x=x→x∈V→qT V ph ρ r c→
  ∃N cq,(∀n,N≤n→p1 n x c=some (gQ ph ρ r x,cq))∧qT V ph ρ r cq:=by
 induction d with
 |zero=>intro x c h;omega
 |succ d bN=>
 intro x c aR ad jW aJ;cases aH:cZ x c.full with
 |some t=>refine⟨1,c,fun n aA=>?_,aJ⟩;obtain⟨n',rfl⟩:∃n',n=n'+1:=⟨n-1,by omega⟩;simp only[p1,aH,aJ.full x t aH]
 |none=>
  have Sy:∀(e:bs),qT V ph ρ r e→qT V ph ρ r {e with full:=eC x (gQ ph ρ r x) e.full}:=fun e he=>⟨⟨he.fin.ru,he.fin.keys,he.fin.ph⟩,fun z t bE=>by
   have ry:cZ z (eC x (gQ ph ρ r x) e.full)=some t:=bE;rw[ng]at ry;split at ry
   ·rename_i e;subst e;cases ry;rfl
   ·exact he.full z t ry⟩
  by_cases ag:c.shd x=false
  ·have je:ph x=none:=by rw[←aJ.fin.ph];exact Ac ag
   have a8:gQ ph ρ r x= .var x:=by rw[Bu (by rw[ad];exact je),ad]
   refine⟨1,_,fun n aA=>?_,Sy c aJ⟩;obtain⟨n',rfl⟩:∃n',n=n'+1:=⟨n-1,by omega⟩;simp only[p1,aH,if_pos ag,a8]
  ·have je:ph x=some (c.shp x):=by rw[←aJ.fin.ph];exact Ad ag
   obtain⟨g1,g2,g3⟩:=gB _ _ je;have aeJ:∀(t:T) (e:bs),(∀w,t.occ w=true→(c.shp x).occ w=true)→qT V ph ρ r e→∃N fE,(∀n,N≤n→t.mapO (AQ (p1 n)) e=some (t.ap (gQ ph ρ r),fE))∧qT V ph ρ r fE:=by
    intro t;induction t with
    |var v=>intro e mT he;have vz:=g2 v (mT v (by simp[T.occ]));have vu:r (ρ v)<r x:=aK x (ρ v) ⟨ad,_,v,je,mT v (by simp[T.occ]),rfl⟩;obtain⟨ak,a6,aZ⟩:=sY he.fin.ru (by rw[he.fin.keys];exact vz:v∈ct e.up);obtain⟨N,aC,bB,di⟩:=bN (ρ v) ak (by omega) (eU v) (by rw[←he.fin.keys];exact(he.fin.ru.mem (by rw[he.fin.keys];exact vz)).1) (he.sm aZ);exact⟨N,aC,fun n aA=>by simp only[T.mapO,AQ,a6,kM,bB n aA,T.ap];rw[←y3 eU],di⟩
    |pair a b dM dN=>intro e mT he;obtain⟨hC,ak,a6,ea⟩:=dM e (fun w hw=>mT w (by simp[T.occ,hw])) he;obtain⟨iR,aC,bB,di⟩:=dN ak (fun w hw=>mT w (by simp[T.occ,hw])) ea;exact⟨max hC iR,aC,fun n aA=>by simp only[T.mapO,a6 n (by omega),kM,bB n (by omega),nS,T.ap],di⟩
    |_=>intro e _ he;exact⟨0,e,fun n _=>rfl,he⟩
   obtain⟨N,e,a6,ea⟩:=aeJ (c.shp x) c (fun w h=>h) aJ;have mU:gQ ph ρ r x=(c.shp x).ap (gQ ph ρ r):=y4 eU aK (by rw[ad];exact je);refine⟨N+1,_,fun n aA=>?_,Sy e ea⟩;obtain⟨n',rfl⟩:∃n',n=n'+1:=⟨n-1,by omega⟩;simp only[p1,aH,if_neg ag,a6 n' (by omega),nS,mU]
def nr(ph:Int→aY T)(ρ:Int→Int)(v:Int):Bool:= !(decide (ρ v=v)&&(ph v).isNone)
theorem ak6(gB:nY V ph)(eU:∀v,ρ (ρ v)=ρ v)(aK:∀z u,iP ph ρ z u→r u<r z)(il:∀v∈V,ρ v∈V):∀(bc:List Int) (c:bs) (out:List Int),(∀v∈bc,v∈V)→(∀d,qc V ph ρ r d c)→out.length≤400→(∀v∈out,(gQ ph ρ r v).size≤5000)→
  ∃N cq o,(∀n,N≤n→rP n bc c out=some (o,cq))∧tk V ph ρ cq∧cq.full=c.full∧(∀l,o=some l→l=out++bc.filter (nr ph ρ)∧l.length≤400∧∀v∈l,(gQ ph ρ r v).size≤5000)∧(o=none→¬((out++bc.filter (nr ph ρ)).length≤400∧∀v∈out++bc.filter (nr ph ρ),(gQ ph ρ r v).size≤5000)):=by
 intro bc;induction bc with
 |nil=>intro c out _ hw J U;exact⟨0,c,some out,fun n _=>rfl,(hw 0).fin,rfl,fun l e=>by cases e;simp;exact⟨J,U⟩,fun e=>by cases e⟩
 |cons v bc bN=>
  intro c out aJ hw J U;have vz:=aJ v (by simp);obtain⟨bG,a6,aZ⟩:=sY (hw 0).fin.ru (by rw[(hw 0).fin.keys];exact vz:v∈ct c.up);have E9:∀d,qc V ph ρ r d bG:=fun d=>(hw d).sm aZ;obtain⟨hC,ch,bB,di,ds,aC,s2⟩:=anm gB eU aK (r (ρ v)+1) (ρ v) bG (by omega) (eU v) (il v vz) (E9 _);have oi:∀d,qc V ph ρ r d ch:=fun d=>⟨di.fin,fun z bE=>by
   by_cases bA:r z<r (ρ v)+1
   ·exact di.col z bA
   ·obtain⟨bC,a2⟩:=ds.hi z (by omega);rw[bC,a2];exact(E9 d).col z bE⟩
  have Jp:ch.full=c.full:=ds.full.trans aZ.rest.2.2;have SF:(ch.shd (ρ v)=false)=((ph (ρ v)).isNone=true):=by rw[←di.fin.ph];unfold bs.ph;cases ch.shd (ρ v)<;>simp
  have jt:∀n,hC≤n→rP n (v::bc) c out=(if ρ v=v∧ch.shd (ρ v)=false then rP n bc ch out else if 5000<ch.sz (ρ v)∨400<out.length+1 then some (none,ch)else rP n bc ch (out++[v])):=fun n aA=>by simp only[rP,a6,kM,bB n aA,Bool.true_eq_false,if_false]
  have R3:gQ ph ρ r (ρ v)=gQ ph ρ r v:=(y3 eU v).symm;by_cases aw:ρ v=v∧ch.shd (ρ v)=false
  ·have ae:nr ph ρ v=false:=by have ao:=aw.2;rw[SF]at ao;rw[aw.1]at ao;simp[nr,aw.1,ao]
   obtain⟨iR,c3,o,bS,f3,pZ,He,iV⟩:=bN ch out (fun w hw=>aJ w (by simp[hw])) oi J U;refine⟨max hC iR,c3,o,fun n aA=>by rw[jt n (by omega),if_pos aw];exact bS n (by omega),f3,pZ.trans Jp,?_,?_⟩
   ·simp only[List.filter_cons,ae,gT,if_false];exact He
   ·simp only[List.filter_cons,ae,gT,if_false];exact iV
  ·have ae:nr ph ρ v=true:=by
    cases e:nr ph ρ v with
    |true=>rfl
    |false=>simp only[nr,Bool.not_eq_false',cA,fm]at e;exact absurd ⟨e.1,by rw[SF,e.1];exact e.2⟩ aw
   by_cases ar:5000<ch.sz (ρ v)∨400<out.length+1
   ·refine⟨hC,ch,none,fun n aA=>by rw[jt n aA,if_neg aw,if_pos ar],di.fin,Jp,(fun l e=>by cases e),fun _=>?_⟩;simp only[List.filter_cons,ae,if_true];rintro⟨bC,a2⟩;rcases ar with ar|ar
    ·rw[s2,R3]at ar;have:=a2 v (by simp);unfold cut at ar;split at ar<;>omega
    ·simp at bC;omega
   ·have bE:(gQ ph ρ r v).size≤5000:=by have:¬5000<ch.sz (ρ v):=fun h=>ar (.inl h);rw[s2,R3]at this;unfold cut at this;split at this<;>omega
    obtain⟨iR,c3,o,bS,f3,pZ,He,iV⟩:=bN ch (out++[v]) (fun w hw=>aJ w (by simp[hw])) oi (by simp;omega) (fun w hw=>by
     rcases jP.1 hw with hw|hw
     ·exact U w hw
     ·simp at hw;subst hw;exact bE)
    refine⟨max hC iR,c3,o,fun n aA=>by rw[jt n (by omega),if_neg aw,if_neg ar];exact bS n (by omega),f3,pZ.trans Jp,?_,?_⟩
    ·simp only[List.filter_cons,ae,if_true];simpa using He
    ·simp only[List.filter_cons,ae,if_true];simpa using iV
theorem ak7(gB:nY V ph)(eU:∀v,ρ (ρ v)=ρ v)(aK:∀z u,iP ph ρ z u→r u<r z)(il:∀v∈V,ρ v∈V):∀(bc:List Int) (c:bs),(∀v∈bc,v∈V)→qT V ph ρ r c→∃N cq,∀n,N≤n→yh n bc c=some (bc.map fun v=>⟨v,gQ ph ρ r v⟩,cq):=by
 intro bc;induction bc with
 |nil=>intro c _ _;exact⟨0,c,fun n _=>rfl⟩
 |cons v bc bN=>intro c aJ hw;have vz:=aJ v (by simp);obtain⟨bG,a6,aZ⟩:=sY hw.fin.ru (by rw[hw.fin.keys];exact vz:v∈ct c.up);obtain⟨hC,ch,bB,di⟩:=ank gB eU aK (r (ρ v)+1) (ρ v) bG (by omega) (eU v) (il v vz) (hw.sm aZ);obtain⟨iR,c3,bS⟩:=bN ch (fun w hw=>aJ w (by simp[hw])) di;refine⟨max hC iR,c3,fun n aA=>?_⟩;simp only[yh,a6,kM,bB n (by omega),bS n (by omega),nS,gM];rw[←y3 eU]
end
end Go.Pv
namespace Go.Pv
open Go
def bs.new:bs:=⟨[],[],[],[],[],[]⟩
def qH(l:List Int):List Int:=l.mergeSort fun x y=>decide (x≤y)
def AE(n:Nat)(E:List (T×T)):aY (aY (List au)):=(pC n E bs.new).bind fun p=>if p.1=false then some none else Df n (qH (ct p.2.up)) p.2
theorem Di(l:List Int):(qH l).Perm l:=List.mergeSort_perm l _
theorem alm{l:List Int}(h:l.Nodup):(qH l).Pairwise (· < ·):=by have J:(qH l).Pairwise fun x y=>decide (x≤y)=true:=List.pairwise_mergeSort (fun a b c=>by simp;omega) (fun a b=>by simp;omega) l;have U:(qH l).Pairwise (· ≠ ·):=List.nodup_iff_pairwise_ne.1 ((Di l).nodup_iff.2 h);exact(J.and U).imp fun h=>by simp at h;omega
structure XX (c:bs) (ρ:Int→Int) (cq:bs) (Uv:Int→Prop):Prop where
 inv:lG cq ρ
 ph:cq.ph=c.ph
 nd:(ct cq.up).Nodup
 sub:∀v∈ct c.up,v∈ct cq.up
 occ:∀v,Uv v→v∈ct cq.up
 rest:cq.color=c.color∧cq.size=c.size∧cq.full=c.full
 new:∀v∈ct cq.up,v∈ct c.up∨Uv v
theorem T9{ρ:Int→Int}(t:T):∀(c:bs),lG c ρ→(ct c.up).Nodup→(∀v,t.occ v=true→0≤v)→∃cq,zN t c=some cq∧XX c ρ cq fun v=>t.occ v=true:=by
 unfold zN;induction t with
 |var v=>
  intro c hi aA bq;by_cases aJ:v∈ct c.up
  ·obtain⟨bG,a6,aZ⟩:=sY hi.ru aJ;refine⟨bG,by simp[T.foldO,a6],hi.sm aZ,aZ.ph,by rw[aZ.keys];exact aA,fun w hw=>by rw[aZ.keys];exact hw,fun w hw=>?_,aZ.rest,fun w hw=>.inl (by rw[aZ.keys]at hw;exact hw)⟩;simp[T.occ]at hw;subst hw;rw[aZ.keys];exact aJ
  ·obtain⟨a6,bB,bS⟩:=akJ hi.ru (bq v (by simp[T.occ])) aJ;refine⟨{c with up:=eC v v c.up},by simp only[T.foldO,a6,nS],⟨bB,?_,hi.sat⟩,rfl,?_,fun w hw=>by rw[bS];simp[hw],fun w hw=>?_,⟨rfl,rfl,rfl⟩,fun w hw=>?_⟩
   ·intro x u ad;obtain⟨bC,a2,a3⟩:=hi.sh x u ad;refine⟨bC,fun w hw=>?_,?_⟩
    ·show w∈ct (eC v v c.up);rw[bS];simp[a2 w hw]
    ·show x∈ct (eC v v c.up);rw[bS];simp[a3]
   ·rw[bS];rw[List.nodup_append];exact⟨aA,by simp,fun a bD b ae e=>by simp at ae;subst ae;subst e;exact aJ bD⟩
   ·simp[T.occ]at hw;subst hw;rw[bS];simp
   ·rw[bS]at hw;simp at hw;rcases hw with hw|rfl;exact .inl hw;exact .inr (by simp[T.occ])
 |pair a b dM dN=>
  intro c hi aA bq;obtain⟨bG,a6,m1⟩:=dM c hi aA fun v aJ=>bq v (by simp[T.occ,aJ]);obtain⟨ch,bB,m2⟩:=dN bG m1.inv m1.nd fun v aJ=>bq v (by simp[T.occ,aJ]);refine⟨ch,by simp only[T.foldO,a6,kM,bB],m2.inv,m2.ph.trans m1.ph,m2.nd,fun v aJ=>m2.sub v (m1.sub v aJ),fun v aJ=>?_,?_,fun v aJ=>?_⟩
  ·simp only[T.occ,lF]at aJ;rcases aJ with aJ|aJ
   ·exact m2.sub v (m1.occ v aJ)
   ·exact m2.occ v aJ
  ·rw[m2.rest.1,m2.rest.2.1,m2.rest.2.2];exact m1.rest
  ·rcases m2.new v aJ with h|h
   ·rcases m1.new v h with h|h
    ·exact .inl h
    ·exact .inr (by simp[T.occ,h])
   ·exact .inr (by simp[T.occ,h])
 |_=>intro c hi aA bq;exact⟨c,rfl,hi,rfl,aA,fun v aJ=>aJ,fun v aJ=>by simp[T.occ]at aJ,⟨rfl,rfl,rfl⟩,fun v aJ=>.inl aJ⟩
def KV(E:List (T×T)):Prop:= ∀e∈E,∀v,(e.1.occ v=true∨e.2.occ v=true)→0≤v
theorem Bh:∀(E:List (T×T)) (c:bs) (ρ:Int→Int),lG c ρ→(ct c.up).Nodup→KV E→∃N o,(∀n,N≤n→pC n E c=some o)∧((o.2.color=c.color∧o.2.size=c.size∧o.2.full=c.full)∧∀v∈ct o.2.up,v∈ct c.up∨ ∃e∈E,e.1.occ v=true∨e.2.occ v=true)∧(o.1=true→∃ρ',lG o.2 ρ'∧(ct o.2.up).Nodup∧∀aP,jR o.2.ph ρ' aP↔jR c.ph ρ aP∧jn E aP)∧(o.1=false→∀aP,jR c.ph ρ aP→¬jn E aP):=by
 intro E;induction E with
 |nil=>intro c ρ hi aA _;exact⟨0,(true,c),fun n _=>rfl,⟨⟨rfl,rfl,rfl⟩,fun v aJ=>.inl aJ⟩,fun _=>⟨ρ,hi,aA,fun aP=>⟨fun h=>⟨h,Dh aP⟩,fun h=>h.1⟩⟩,fun e=>by cases e⟩
 |cons e E bN=>
  intro c ρ hi aA bq;obtain⟨bG,a6,m1⟩:=T9 e.1 c hi aA fun v aJ=>bq e (by simp) v (.inl aJ);obtain⟨ch,bB,m2⟩:=T9 e.2 bG m1.inv m1.nd fun v aJ=>bq e (by simp) v (.inr aJ);obtain⟨kK,ub⟩:=m2.inv.sat
  obtain⟨hC,gR,bS,iK⟩:=ZI _ _ ch ρ e.1 e.2 kK m2.inv ub (fun w hw=>m2.sub w (m1.occ w hw)) (fun w hw=>m2.occ w hw) rfl rfl;have je:ch.ph=c.ph:=m2.ph.trans m1.ph;have me:gR.2.color=c.color∧gR.2.size=c.size∧gR.2.full=c.full:=by rw[iK.rest.1,iK.rest.2.1,iK.rest.2.2,m2.rest.1,m2.rest.2.1,m2.rest.2.2];exact m1.rest
  have EU:∀v∈ct gR.2.up,v∈ct c.up∨e.1.occ v=true∨e.2.occ v=true:=fun v aJ=>by
   rw[iK.keys]at aJ;rcases m2.new v aJ with h|h
   ·rcases m1.new v h with h|h
    ·exact .inl h
    ·exact .inr (.inl h)
   ·exact .inr (.inr h)
  obtain⟨f,c3⟩:=gR;cases f with
  |false=>refine⟨hC,(false,c3),fun n aA=>?_,⟨me,fun v aJ=>(EU v aJ).imp id fun h=>⟨e,by simp,h⟩⟩,(fun e=>by cases e),fun _ aP ag he=>iK.no rfl aP (by rw[je];exact ag) (qF.1 he).1⟩;simp only[pC,a6,bB,kM,bS n aA,gT,if_false]
  |true=>
   obtain⟨k4,bC,a2,_⟩:=iK.yes rfl;simp only at bC a2;obtain⟨iR,gJ,b8,b3,fG,oU⟩:=bN c3 k4 bC (by have:=iK.keys;simp only at this;rw[this];exact m2.nd) fun fE he=>bq fE (by simp[he]);refine⟨max hC iR,gJ,fun n aA=>?_,?_,fun aH=>?_,fun aH aP ag he=>?_⟩
   ·simp only[pC,a6,bB,kM,bS n (by omega),if_true];exact b8 n (by omega)
   ·refine⟨by rw[b3.1.1,b3.1.2.1,b3.1.2.2];exact me,fun v aJ=>?_⟩;rcases b3.2 v aJ with h|⟨fE,J,U⟩
    ·exact(EU v h).imp id fun h=>⟨e,by simp,h⟩
    ·exact .inr ⟨fE,by simp[J],U⟩
   ·obtain⟨ρ2,d1,d2,d3⟩:=fG aH;exact⟨ρ2,d1,d2,fun aP=>by rw[d3 aP,a2 aP,je,qF,and_assoc]⟩
   ·exact oU aH aP ((a2 aP).2 ⟨by rw[je];exact ag,(qF.1 he).1⟩) (qF.1 he).2
theorem DT{ph:Int→aY T}{ρ:Int→Int}{v:Int}:nr ph ρ v=false↔ρ v=v∧ph v=none:=by simp[nr]
theorem Rz{ph:Int→aY T}{ρ:Int→Int}{r:Int→Nat}(eU:∀v,ρ (ρ v)=ρ v):∀(n:Nat) (v w:Int),(mH ph ρ n v).occ w=true→(∀z u,iP ph ρ z u→r u<r z)→r (ρ v)<n→ρ w=w∧ph w=none
 |0,v,w,_,_,h=>by omega
 |n+1,v,w,h,aK,aA=>by
  simp only[mH]at h;cases e:ph (ρ v)with
  |none=>rw[e]at h;simp[T.occ]at h;subst h;exact⟨eU v,e⟩
  |some t=>rw[e]at h;obtain⟨u,J,U⟩:=CI.1 h;have:=aK (ρ v) (ρ u) ⟨eU v,t,u,e,J,rfl⟩;exact Rz eU n u w U aK (by omega)
section
variable {V:List Int} {ph:Int→aY T} {ρ:Int→Int} {r:Int→Nat}
def sZ(ph:Int→aY T)(ρ:Int→Int)(r:Int→Nat)(V:List Int):List au:=((qH V).filter (nr ph ρ)).map fun v=>⟨v,gQ ph ρ r v⟩
theorem Md(aA:V.Nodup):iu (sZ ph ρ r V):=by unfold sZ;rw[iu,List.pairwise_map];exact((alm aA).filter _)
theorem Wj(aA:V.Nodup)(gB:nY V ph)(dg:∀v,v∉V→ρ v=v)(v:Int):df (sZ ph ρ r V) v=if nr ph ρ v then some (gQ ph ρ r v)else none:=by
 by_cases ae:nr ph ρ v=true
 ·rw[if_pos ae];have aJ:v∈V:=by
   refine Classical.byContradiction fun h=>?_;have J:=dg v h;have U:ph v=none:=by cases e:ph v with
    |none=>rfl
    |some t=>exact absurd (gB v t e).2.2 h
   rw[DT.2 ⟨J,U⟩]at ae;cases ae
  have:(⟨v,gQ ph ρ r v⟩:au)∈sZ ph ρ r V:=iO.2 ⟨v,nk.2 ⟨(Di V).mem_iff.2 aJ,ae⟩,rfl⟩;exact uX (Md aA) this
 ·rw[if_neg ae];refine uY.2 fun b fI e=>?_;obtain⟨u,J,rfl⟩:=iO.1 fI;simp only at e;subst e;exact ae (nk.1 J).2
theorem ak9(aA:V.Nodup)(gB:nY V ph)(dg:∀v,v∉V→ρ v=v)(eU:∀v,ρ (ρ v)=ρ v)(hle:∀v,ρ v≤v)(aK:∀z u,iP ph ρ z u→r u<r z):fD (sZ ph ρ r V):=by
 refine⟨Md aA,fun b ae w hw=>?_,fun b ae w hw=>?_⟩
 ·obtain⟨u,J,rfl⟩:=iO.1 ae;rw[Wj aA gB dg];have:=Rz eU _ u w hw aK (by omega);rw[DT.2 this];rfl
 ·obtain⟨u,J,rfl⟩:=iO.1 ae;have o6:=(nk.1 J).2;simp only at hw⊢;cases e:ph (ρ u)with
  |none=>
   rw[Bu e]at hw;cases hw;have U:=hle u;have ao:ρ u≠u:=fun h=>by rw[DT.2 ⟨h,by rw[h]at e;exact e⟩]at o6;cases o6
   omega
  |some t=>rw[y4 eU aK e]at hw;have:=(gB _ _ e).1;cases t<;>simp[T.ap,T.kind]at hw this
theorem adH(eU:∀v,ρ (ρ v)=ρ v)(aK:∀z u,iP ph ρ z u→r u<r z)(aP:Int→T):jR ph ρ aP↔∀v,aP v=(gQ ph ρ r v).ap aP:=by
 constructor
 ·intro h;have:∀(n:Nat) (v:Int),r (ρ v)<n→aP v=(gQ ph ρ r v).ap aP:=by
   intro n;induction n with
   |zero=>intro v h;omega
   |succ n bN=>
    intro v aJ;cases e:ph (ρ v)with
    |none=>rw[Bu e];exact h.1 v
    |some t=>rw[y4 eU aK e,A4,h.1 v,h.2 _ t (eU v) e];refine tv fun w hw=>bN w ?_;have:=aK (ρ v) (ρ w) ⟨eU v,t,w,e,hw,rfl⟩;omega
  exact fun v=>this _ v (Nat.lt_succ_self _)
 ·intro h;refine⟨fun v=>by rw[h v,h (ρ v),←y3 eU],fun x t ad aL=>?_⟩;rw[h x,y4 eU aK (by rw[ad];exact aL),A4];exact tv fun w _=>(h w).symm
theorem ak8(aA:V.Nodup)(gB:nY V ph)(dg:∀v,v∉V→ρ v=v)(eU:∀v,ρ (ρ v)=ρ v)(aK:∀z u,iP ph ρ z u→r u<r z)(aP:Int→T):gO (sZ ph ρ r V) aP↔jR ph ρ aP:=by
 rw[adH eU aK,alf (Md aA)];refine forall_congr' fun v=>?_;rw[cz,Wj aA gB dg];cases e:nr ph ρ v with
 |true=>simp
 |false=>obtain⟨J,U⟩:=DT.1 e;rw[Bu (by rw[J];exact U),J];simp
end
theorem alg(E:List (T×T))(bq:KV E):∃n o,AE n E=some o∧iy [] E o∧∀c,pC n E bs.new=some (true,c)→(ct c.up).Nodup∧(∀v∈ct c.up,∃e∈E,e.1.occ v=true∨e.2.occ v=true)∧c.size=[]:=by
 have hi:lG bs.new id:=⟨⟨fun v u h=>by simp[bs.new,cZ]at h,fun v _=>rfl⟩,fun x t h=>by simp[bs.new,bs.ph,bs.shd,cZ]at h,⟨.var,fun v=>rfl,fun x t _ h=>by simp[bs.new,bs.ph,bs.shd,cZ]at h⟩⟩;have tO:∀aP,jR bs.new.ph id aP:=fun aP=>⟨fun v=>rfl,fun x t _ h=>by simp[bs.new,bs.ph,bs.shd,cZ]at h⟩;obtain⟨hC,gR,a6,cU,ds,iK⟩:=Bh E bs.new id hi (by simp[bs.new,ct]) bq;obtain⟨cU,U2⟩:=cU;obtain⟨f,c⟩:=gR;cases f with
 |false=>refine⟨hC,none,by simp[AE,a6 hC (eV _)],DO fun aP _ he=>iK rfl aP (tO aP) he,fun c h=>?_⟩;rw[a6 hC (eV _)]at h;cases h
 |true=>
  obtain⟨ρ,bC,a2,a3⟩:=ds rfl;simp only at bC a2 a3 cU U2;have RW:∀n,hC≤n→∀cq,pC n E bs.new=some (true,cq)→(ct cq.up).Nodup∧(∀v∈ct cq.up,∃e∈E,e.1.occ v=true∨e.2.occ v=true)∧cq.size=[]:=fun n aA cq h=>by rw[a6 n aA]at h;cases h;exact⟨a2,fun v aJ=>(U2 v aJ).resolve_left (by simp[bs.new,ct]),cU.2.1⟩
  obtain⟨r,aK⟩:=bC.rank;have eU:=bC.ru.idem;have il:∀v∈ct c.up,ρ v∈ct c.up:=fun v aJ=>(bC.ru.mem aJ).1;have dB:tk (ct c.up) c.ph ρ c:=⟨bC.ru,rfl,rfl⟩;have hw:∀d,qc (ct c.up) c.ph ρ r d c:=fun d=>⟨dB,fun z _=>.inl (by simp[bs.col,cU.1,bs.new,cZ])⟩;obtain⟨iR,ch,o,b8,b3,fG,oU,NG⟩:=ak6 bC.sh eU aK il (qH (ct c.up)) c [] (fun v aJ=>(Di _).mem_iff.1 aJ) hw (by simp) (fun v aJ=>by simp at aJ);have dk:=ak9 (r:=r) a2 bC.sh bC.ru.no eU bC.ru.le aK;have kU:∀aP,gO (sZ c.ph ρ r (ct c.up)) aP↔gO [] aP∧jn E aP:=fun aP=>by rw[ak8 a2 bC.sh bC.ru.no eU aK,a3 aP];exact⟨fun h=>⟨fun b ae=>by simp at ae,h.2⟩,fun h=>⟨tO aP,h.2⟩⟩
  have RY:hs (sZ c.ph ρ r (ct c.up))↔(([]++(qH (ct c.up)).filter (nr c.ph ρ)).length≤400∧∀v∈[]++(qH (ct c.up)).filter (nr c.ph ρ),(gQ c.ph ρ r v).size≤5000):=by unfold hs sZ;simp only[p6,bX,iO,forall_exists_index,and_imp,forall_apply_eq_imp_iff₂]
  cases o with
  |none=>refine⟨max hC iR,none,by simp[AE,a6 (max hC iR) (by omega),Df,b8 (max hC iR) (by omega)],?_,RW _ (by omega)⟩;exact fun ai J U ao=>NG rfl (RY.1 (QY dk J (fun aP hp=>(kU aP).2 (U aP hp)) ao))
  |some l=>
   obtain⟨ak,aC,bj⟩:=oU l rfl;have afo:qT (ct c.up) c.ph ρ r ch:=⟨b3,fun x t h=>by rw[fG,cU.2.2]at h;simp[bs.new,cZ]at h⟩;simp only[bX]at ak;obtain⟨yx,c3,d1⟩:=ak7 bC.sh eU aK il l ch (fun v aJ=>by rw[ak]at aJ;exact(Di _).mem_iff.1 (nk.1 aJ).1) afo;refine⟨max (max hC iR) yx,some (sZ c.ph ρ r (ct c.up)),?_,⟨⟨dk,RY.2 ?_⟩,kU⟩,RW _ (by omega)⟩
   ·simp only[AE,a6 (max (max hC iR) yx) (by omega),kM,Bool.true_eq_false,if_false,Df,b8 (max (max hC iR) yx) (by omega),d1 (max (max hC iR) yx) (by omega),nS];rw[ak];rfl
   ·rw[bX,←ak];exact⟨aC,bj⟩
def hE(s:List au):List (T×T):=s.map fun b=>(.var b.v,b.t)
theorem ale{s:List au}{aP:Int→T}:jn (hE s) aP↔gO s aP:=by simp[jn,hE,gO,T.ap]
theorem X8{s:List au}{E:List (T×T)}{o:aY (List au)}:iy [] (hE s++E) o↔iy s E o:=by
 have h:∀aP,(gO [] aP∧jn (hE s++E) aP)↔(gO s aP∧jn E aP):=fun aP=>by rw[Dg,ale];exact⟨fun h=>h.2,fun h=>⟨fun b ae=>by simp at ae,h⟩⟩
 exact⟨A2 h,A2 fun aP=>(h aP).symm⟩
end Go.Pv
namespace Go.Pv
open Go
open Classical in
noncomputable def mgu(s:List au)(E:List (T×T)):aY (List au):=if h:∃o,iy s E o then h.choose else none
theorem rG{s:List au}{E:List (T×T)}{o:aY (List au)}(h:iy s E o):mgu s E=o:=by have ad:∃o,iy s E o:=⟨o,h⟩;unfold mgu;rw[dif_pos ad];exact X9 ad.choose_spec h
def pX(s:List au):Prop:= ∀b∈s,(0≤b.v∧b.v≤100000)∧b.t.ok=true
theorem Ny{aP:Int→T}{t:T}(aL:t.ok=true)(h:∀v,t.occ v=true→(aP v).ok=true):(t.ap aP).ok=true:=by
 induction t with
 |var n=>exact h n (by simp[T.occ])
 |pair a b dM dN=>simp only[T.ok,cA]at aL;simp only[T.ap,T.ok,cA];exact⟨dM aL.1 fun v aJ=>h v (by simp[T.occ,aJ]),dN aL.2 fun v aJ=>h v (by simp[T.occ,aJ])⟩
 |_=>exact aL
theorem wA{t:T}(aL:t.ok=true){v:Int}(h:t.occ v=true):0≤v∧v≤100000:=by
 induction t with
 |var n=>simp[T.occ]at h;subst h;simpa[T.ok]using aL
 |pair a b dM dN=>
  simp only[T.ok,cA]at aL;simp only[T.occ,lF]at h;rcases h with h|h
  ·exact dM aL.1 h
  ·exact dN aL.2 h
 |_=>simp[T.occ]at h
theorem GJ{s:List au}(ag:pX s){t:T}(aL:t.ok=true):(t.ap (cz s)).ok=true:=Ny aL fun v aJ=>by
 unfold cz;cases e:df s v with
 |none=>have:=wA aL aJ;simpa[T.ok]using this
 |some x=>exact(ag _ (jS e)).2
theorem A7{s:List au}(ag:pX s){v:Int}{t:T}(aJ:0≤v∧v≤100000)(aL:t.ok=true){ai:List au}(h:nq s v t=some ai):pX ai:=by
 unfold nq at h;split at h
 ·cases h;intro b ae;rcases pT.1 ae with rfl|⟨c,aw,rfl⟩
  ·exact⟨aJ,GJ ag aL⟩
  ·refine⟨(ag c aw).1,Ny (ag c aw).2 fun w hw=>?_⟩;unfold one;split
   ·exact GJ ag aL
   ·have:=wA (ag c aw).2 hw;simpa[T.ok]using this
 ·cases h
theorem Xv{s:List au}(ag:pX s){t:T}(aL:t.ok=true):(hh s t).ok=true:=by
 cases t with
 |var n=>have:=GJ ag aL;simpa[hh,T.ap]using this
 |_=>exact aL
theorem ME:∀(n:Nat) (s:List au) (a b:T) (ai:List au),pX s→a.ok=true→b.ok=true→kq n s a b=some (some ai)→pX ai
 |0,_,_,_,_,_,_,_,h=>by simp[kq]at h
 |n+1,s,a,b,ai,ag,bD,ae,h=>by
  have ad:=Xv ag bD;have aM:=Xv ag ae;simp only[kq]at h;generalize hh s a=x at h ad;generalize hh s b=y at h aM;have vA:∀{i:Int},(T.var i).ok=true→0≤i∧i≤100000:=fun h=>wA h (by simp[T.occ]);cases x with
  |var i=>
   cases y with
   |var j=>
    simp only[jO,dE]at h;split at h
    ·exact A7 ag (vA aM) ad h
    ·split at h
     ·cases h;exact ag
     ·exact A7 ag (vA ad) aM h
   |_=>simp only[jO,dE]at h;exact A7 ag (vA ad) aM h
  |pair bC a2=>
   cases y with
   |var j=>simp only[jO,dE]at h;exact A7 ag (vA aM) ad h
   |pair b8 b3=>
    simp only[T.ok,cA]at ad aM;simp only[jO]at h;split at h
    ·cases h
    ·cases h
    ·rename_i s1 ak;exact ME n s1 a2 b3 ai (ME n s bC b8 s1 ag ad.1 aM.1 ak) ad.2 aM.2 h
   |_=>simp[jO]at h
  |_=>
   cases y with
   |var j=>simp only[jO,dE]at h;exact A7 ag (vA aM) ad h
   |_=>
    simp only[jO,dE]at h;split at h
    ·cases h;exact ag
    ·cases h
def ni:T→List Int
 | .var n=>[n]
 | .pair a b=>ni a++ni b
 |_=>[]
theorem xR{t:T}{v:Int}(h:t.occ v=true):v∈ni t:=by
 induction t with
 |var n=>simp[T.occ]at h;subst h;simp[ni]
 |pair a b dM dN=>simp only[T.occ,lF]at h;simp only[ni,jP];exact h.imp dM dN
 |_=>simp[T.occ]at h
theorem G1{s:List au}(ag:fD s)(aH:hs s)(a b:T):∃n o,kq n s a b=some o∧iy s [(a,b)] o:=by obtain⟨n,o,J,U⟩:=WT (s.flatMap (fun b=>b.v::ni b.t)++ni a++ni b) _ _ s a b ag aH (fun c aw=>⟨by simp only[jP,List.mem_flatMap];exact .inl (.inl ⟨c,aw,by simp⟩),fun w hw=>by simp only[jP,List.mem_flatMap];exact .inl (.inl ⟨c,aw,by simp[xR hw]⟩)⟩) (fun w hw=>by simp[xR hw]) (fun w hw=>by simp[xR hw]) rfl rfl;exact⟨n,o,J,U.1⟩
theorem Nj{s:List au}{e:T×T}{E:List (T×T)}{s1:List au}(h:iy s [e] (some s1)){o:aY (List au)}(U:iy s1 E o):iy s (e::E) o:=Ni (E:=[e]) h U
theorem FN{s:List au}(ag:fD s)(aH:hs s)(E:List (T×T)):iy s E (mgu s E):=by
 induction E generalizing s with
 |nil=>rw[rG (Hv ag aH)];exact Hv ag aH
 |cons e E bN=>
  obtain⟨n,o,_,U⟩:=G1 ag aH e.1 e.2;cases o with
  |none=>have ao:iy s (e::E) none:=Hu E U;rw[rG ao];exact ao
  |some s1=>have ao:=Nj U (bN U.1.1 U.1.2);rw[rG ao];exact ao
theorem KL{s:List au}(ag:fD s)(aH:hs s):mgu s []=some s:=rG (Hv ag aH)
theorem KK{s:List au}(ag:fD s)(aH:hs s)(e:T×T)(E:List (T×T)):mgu s (e::E)=match mgu s [e]with|some s1=>mgu s1 E|none=>none:=by
 have J:=FN ag aH [e];cases h:mgu s [e]with
 |none=>rw[h]at J;have ao:iy s (e::E) none:=Hu E J;exact rG ao
 |some s1=>rw[h]at J;exact rG (Nj J (FN J.1.1 J.1.2 E))
theorem zO{s:List au}(ag:fD s)(aH:hs s){E:List (T×T)}{ai:List au}(h:mgu s E=some ai):fD ai∧hs ai:=by have J:=FN ag aH E;rw[h]at J;exact J.1
theorem agQ{s:List au}(ag:fD s)(aH:hs s)(av:pX s){E:List (T×T)}(dw:∀e∈E,e.1.ok=true∧e.2.ok=true){ai:List au}(h:mgu s E=some ai):pX ai:=by
 induction E generalizing s with
 |nil=>rw[KL ag aH]at h;cases h;exact av
 |cons e E bN=>
  rw[KK ag aH]at h;split at h
  ·rename_i s1 J;obtain⟨n,o,U,ao⟩:=G1 ag aH e.1 e.2;have a7:=rG ao;rw[J]at a7;subst a7;exact bN ao.1.1 ao.1.2 (ME n s e.1 e.2 s1 av (dw e (by simp)).1 (dw e (by simp)).2 U) (fun fE he=>dw fE (by simp[he])) h
  ·cases h
theorem Tr{l:List Int}(aA:l.Nodup)(h:∀v∈l,0≤v∧v≤100000):l.length≤100001:=by
 have J:(l.map Int.toNat).Nodup:=by rw[List.nodup_iff_pairwise_ne,List.pairwise_map];exact anz (fun{a b} bD ae cF e=>cF (by have:=h a bD;have:=h b ae;omega)) aA
 have:=M6 J (l₂:=List.range 100001) (fun x ad=>by obtain⟨v,aJ,rfl⟩:=iO.1 ad;have:=h v aJ;simp;omega)
 simpa using this
end Go.Pv
