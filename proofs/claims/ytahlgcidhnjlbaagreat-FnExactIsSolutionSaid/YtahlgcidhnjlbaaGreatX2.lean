/- The most general unifier within the limits. -/
import Derived.Deep.LoopGhost
import Derived.Test.YtahlgcidhnjlbaaGreatX1
set_option linter.all false
set_option maxHeartbeats 4000000
open Array renaming getElem?_toList→ti
open Bool renaming and_eq_true→cC,false_eq_true→gS,or_eq_true→mA
open Decidable renaming not_not→arF
open Go renaming Program→cD,TypeId→fR
open Go.IntKind renaming bits→nO,signed→r4,u64→hd,wrap→r5
open Go.IntWalk renaming i64_in→oF
open Go.Op renaming bytesLess→ho
open Go.Region renaming wanted→oG
open Go.Result renaming andThen_ok→fI
open Go.Sem renaming run_bind→fE,run_pure→gu
open Go.Value renaming cells→pe
open List renaming all_eq_true→gh,cons_append→bV,drop_eq_getElem_cons→k6,getElem?_eq_getElem→cf,getElem?_eq_none→p5,getElem?_eq_some_iff→fi,length_append→pf,length_cons→p6,map_cons→hf,mem_append→ky,mem_cons→fY,mem_cons_of_mem→pg,mem_filter→nl,mem_map→iP,nil_append→bY,pairwise_cons→mB,pairwise_iff_getElem→pj
open List.Nodup renaming length_le_of_subset→MK
open List.Pairwise renaming imp_of_mem→amq,nil→arM
open List.Perm renaming eq_of_pairwise→ML
open List.cons renaming injEq→p4
open Nat renaming le_refl→eR,le_trans→j8
open Ne renaming symm→kN
open Option renaming bind_some→kO,getD_none→nm,getD_some→j9,isSome_iff_exists→fJ,isSome_none→l0,map_eq_some_iff→gJ,map_some→nQ
open Option.some renaming inj→fj,injEq→dG
open Prod.mk renaming injEq→jm
open _root_ renaming False→eK,Option→aY,UInt8→dz,beq_iff_eq→dO,congrArg→e2,decide_eq_false→iq,decide_eq_false_iff_not→gz,decide_eq_true_eq→fk
namespace Go.Pv
open Go Go.RowKit
def agh(A:dg)(s ai:cK)(rm:aY aH):Prop:=(∀k,(look k ai.b).isSome→(look k s.b).isSome∨rm=some k)∧(∀k,(look k ai.e).isSome→(look k s.e).isSome∨rm=some k)∧(∀k,(look k s.b).isSome→(look k ai.b).isSome)∧(∀k,(look k s.e).isSome→(look k ai.e).isSome)∧
 (∀k,rm=some k→(∃j,k= .obj j)∧A.F k∧A.b k=none∧A.e k=none∧((look k ai.b).isSome∨(look k ai.e).isSome))
def W4(P:cD)(n:Nat)(args:List ah)(A:dg)(d:aY Nat)(x:kA):Prop:=
 ∃s ai r rm,(∀k cs,look k s.b=some cs→A.b k=some cs∧aI (inObs s) cs)∧(∀k o,look k s.e=some o→A.e k=some o∧dW (inObs s) o)∧iI s∧iI ai∧agh A s ai rm∧aI (inObs s) args∧
  bN P n args s (fun eC dJ=>eC=r∧dJ=ai)∧x=⟨d,r,ai.b,ai.e,rm⟩
def W5(P:cD)(n0 n:Nat)(args:List ah)(A:dg)(d:aY Nat)(x:kA):Prop:=
 ∃cG r,d=some cG∧(A.F (.loc (n0+cG))∧A.b (.loc (n0+cG))=none∧A.e (.loc (n0+cG))=none)∧aI (fun _=>eK) args∧
  G1 P n (n0+cG) args ⟨[],[]⟩ (fun eC dJ=>eC=r∧dJ=⟨[],[]⟩)∧x=⟨d,r,[],[],some (.loc (n0+cG))⟩
def xB:ah→Bool
 | .ptr (.loc _) _=>true
 | .eptr _=>true
 |_=>false
def fM.isB:fM→Bool
 | .loadB _ _ _=>true
 | .mgetB _ _ _ _ _=>true
 |_=>false
def fM.ptrOf(t:Nat→ah):fM→ah
 | .load _ _ x=>du t x
 | .loadB _ _ x=>du t x
 |_=>.junk
def en(P:cD)(q:Bool)(n0:Nat):ee→dg→kA→Prop
 | .s (.v d i),A,x=> ∃c p,pc A.t A.b A.e i=some (c,p)∧c∧(i.isLoad=true→i.isB=true∨q=true∨xB (i.ptrOf A.t)=true)∧x=⟨some d,p,[],[],none⟩
 | .s (.box d none v),A,x=>(A.F (.loc (n0+d))∧A.b (.loc (n0+d))=none∧A.e (.loc (n0+d))=none)∧eb (du A.t v)=true∧x=⟨some d,.ptr (.loc (n0+d)) 0,[(.loc (n0+d),cells (du A.t v))],[],some (.loc (n0+d))⟩
 | .s (.alloc d none z),A,x=>(A.F (.loc (n0+d))∧A.b (.loc (n0+d))=none∧A.e (.loc (n0+d))=none)∧x=⟨some d,.ptr (.loc (n0+d)) 0,[(.loc (n0+d),cells z)],[],some (.loc (n0+d))⟩
 | .s (.store sz u v),A,x=> ∃k off cs,du A.t u= .ptr k off∧A.b k=some cs∧(hP cs=true∧eb (du A.t v)=true∧(cells (du A.t v)).length=sz∧off+sz≤cs.length)∧x=⟨none,.junk,[(k,nI cs off (cells (du A.t v)))],[],none⟩
 | .s (.bsl d sz el xs),A,x=>(A.F (.loc (n0+d))∧A.b (.loc (n0+d))=none∧A.e (.loc (n0+d))=none)∧sd sz (xs.map (du A.t))∧x=⟨some d,.slice sz (.own (.loc (n0+d))) (xs.map (du A.t)),[],[(.loc (n0+d),⟨xs.length,el,sz,none⟩)],some (.loc (n0+d))⟩
 | .s (.app d sz el u v),A,x=> ∃tag xs kJ ys,du A.t u= .slice sz tag xs∧du A.t v= .slice sz kJ ys∧
   ((∃k o,tag= .own k∧A.e k=some o∧(o.xs=none∧o.n=xs.length∧o.el=el∧o.sz=sz∧xs.length+ys.length≤lim)∧x=⟨some d,.slice sz (.own k) (xs++ys),[],[(k,⟨xs.length+ys.length,el,sz,none⟩)],none⟩)∨
    (tag= .nil∧ys.length≤lim∧(A.F (.loc (n0+d))∧A.b (.loc (n0+d))=none∧A.e (.loc (n0+d))=none)∧x=⟨some d,.slice sz (.own (.loc (n0+d))) ys,[],[(.loc (n0+d),⟨ys.length,el,sz,none⟩)],some (.loc (n0+d))⟩))
 | .s (.appm d _ sz el u v),A,x=> ∃k n xs kJ ys,du A.t u= .row sz k n∧du A.t v= .slice sz kJ ys∧A.e k=some ⟨n,el,sz,some xs⟩∧xs.length+ys.length≤lim∧x=⟨some d,.row sz k (xs.length+ys.length),[],[(k,⟨xs.length+ys.length,el,sz,some (xs++ys)⟩)],none⟩
 | .s (.storeE sz u v),A,x=> ∃k n i f el dF xs q,du A.t u= .rptr dF k n i f∧A.e k=some ⟨n,el,dF,some xs⟩∧xs[i]? =some q∧(eb q=true∧eb (du A.t v)=true∧(cells (du A.t v)).length=sz∧f+sz≤(cells q).length∧0<sz)∧x=⟨none,.junk,[],[(k,⟨n,el,dF,some (xs.set i (mw q f (cells (du A.t v))))⟩)],none⟩
 | .s (.mkmap d (some m)),A,x=>(A.F (.obj m)∧A.b (.obj m)=none∧A.e (.obj m)=none)∧x=⟨some d,.gmap (.obj m),[(.obj m,[.hdm 0 []])],[],some (.obj m)⟩
 | .s (.mput cd u k v),A,x=> ∃m cs cs',du A.t u= .gmap m∧A.b m=some cs∧oq cd (du A.t k) (du A.t v) cs=some cs'∧x=⟨none,.junk,[(m,cs')],[],none⟩
 | .call d f xs,A,x=> ∃n dj,du A.t f= .func n dj∧((W4 P n (cZ (xs.map (du A.t)++dj)) A d x∧(q=true→x.bw=[]∧x.ew=[]))∨W5 P n0 n (cZ (xs.map (du A.t)++dj)) A d x)
 |_,_,_=>eK
inductive AL where
 |v|l|n|s|w|a|c|m|r|k
 deriving DecidableEq
def ee.mode:ee→AL
 | .s (.v _ (.loadB _ _ _))=>.m
 | .s (.v _ (.mgetB _ _ _ _ _))=>.m
 | .s (.v _ i)=>if i.isLoad then .l else .v
 | .s (.storeE _ _ _)=>.r
 | .s (.box _ _ _)=>.n
 | .s (.alloc _ _ _)=>.n
 | .s (.store _ _ _)=>.w
 | .s (.bsl _ _ _ _)=>.s
 | .s (.app _ _ _ _ _)=>.a
 | .s (.bslm _ _ _ _ _)=>.w
 | .s (.mks _ _ _ _ _ _)=>.w
 | .s (.appm _ _ _ _ _ _)=>.r
 | .s (.mkmap _ _)=>.k
 | .s (.mput _ _ _ _)=>.w
 | .s (.range _ _ _)=>.w
 | .call _ _ _=>.c
 | .next _ _=>.w
structure Hc (q:Bool) (n0:Nat) (m:AL) (dst:aY Nat) (A:dg) (x:kA):Prop where
 d:x.d=dst
 b:∀k,(look k x.bw).isSome→(m= .n∧∃d,dst=some d∧k= .loc (n0+d)∧A.b k=none∧A.e k=none)∨m= .w∨(m= .c∧(∃j,k= .obj j)∧q=false)∨(m= .k∧(∃j,k= .obj j)∧A.b k=none∧A.e k=none)
 e:∀k,(look k x.ew).isSome→(m= .s∧∃d,dst=some d∧k= .loc (n0+d)∧A.b k=none∧A.e k=none)∨(m= .a∧(A.e k≠none∨ ∃d,dst=some d∧k= .loc (n0+d)∧A.b k=none∧A.e k=none))∨(m= .c∧(∃j,k= .obj j)∧q=false)∨(m= .r∧∃o,A.e k=some o∧o.xs≠none)
 r:∀k,x.rm=some k→(∃d,dst=some d∧k= .loc (n0+d))∨((m= .c∨m= .k)∧(∃j,k= .obj j)∧((look k x.bw).isSome∨(look k x.ew).isSome))
 ex:m= .a→∀k o,(look k x.ew).isSome→A.e k=some o→o.xs=none
 xn:m= .a∨m= .s→∀k o,look k x.ew=some o→o.xs=none
theorem sP{α:Type}{k bK:aH}{x:α}(h:(look k [(bK,x)]).isSome):k=bK:=by
 simp only[look]at h;split at h
 ·rename_i e;exact e.symm
 ·cases h
theorem Kd{k bK:aH}{n el sz:Nat}{o:fK}(h:look k [(bK,(⟨n,el,sz,none⟩:fK))]=some o):o.xs=none:=by
 simp only[look]at h;split at h
 ·cases h;rfl
 ·cases h
theorem Wc{P:cD}{q:Bool}{n0:Nat}{i:ee}{A:dg}{x:kA}(h:en P q n0 i A x):Hc q n0 i.mode i.dst A x:=by
 cases i with
 |s i=>
  cases i with
  |v d i=>simp only[en]at h;obtain⟨c,p,_,_,_,rfl⟩:=h;exact⟨rfl,fun k ab=>by simp[look]at ab,fun k ab=>by simp[look]at ab,fun k ab=>by simp at ab,fun _ k o ab=>by simp[look]at ab,fun _ k o ab=>by simp[look]at ab⟩
  |box d key v=>
   cases key with
   |some m=>simp only[en]at h
   |none=>simp only[en]at h;obtain⟨⟨_,U,ao⟩,_,rfl⟩:=h;exact⟨rfl,fun k ab=>by obtain rfl:=sP ab;exact .inl ⟨rfl,d,rfl,rfl,U,ao⟩,fun k ab=>by simp[look]at ab,fun k ab=>by simp at ab;exact .inl ⟨d,rfl,ab.symm⟩,fun _ k o ab=>by simp[look]at ab,fun _ k o ab=>by simp[look]at ab⟩
  |alloc d key z=>
   cases key with
   |some m=>simp only[en]at h
   |none=>simp only[en]at h;obtain⟨⟨_,U,ao⟩,rfl⟩:=h;exact⟨rfl,fun k ab=>by obtain rfl:=sP ab;exact .inl ⟨rfl,d,rfl,rfl,U,ao⟩,fun k ab=>by simp[look]at ab,fun k ab=>by simp at ab;exact .inl ⟨d,rfl,ab.symm⟩,fun _ k o ab=>by simp[look]at ab,fun _ k o ab=>by simp[look]at ab⟩
  |store sz u v=>simp only[en]at h;obtain⟨k,off,cs,_,_,_,rfl⟩:=h;exact⟨rfl,fun k ab=>.inr (.inl rfl),fun k ab=>by simp[look]at ab,fun k ab=>by simp at ab,fun _ k o ab=>by simp[look]at ab,fun _ k o ab=>by simp[look]at ab⟩
  |bsl d sz el xs=>simp only[en]at h;obtain⟨⟨_,U,ao⟩,_,rfl⟩:=h;exact⟨rfl,fun k ab=>by simp[look]at ab,fun k ab=>by obtain rfl:=sP ab;exact .inl ⟨rfl,d,rfl,rfl,U,ao⟩,fun k ab=>by simp at ab;exact .inl ⟨d,rfl,ab.symm⟩,fun e=>by simp[ee.mode]at e,fun _ k o ab=>Kd ab⟩
  |app d sz el u v=>
   simp only[en]at h;obtain⟨tag,xs,kJ,ys,_,_,h⟩:=h;rcases h with⟨k,o,_,J,⟨h7,_⟩,rfl⟩|⟨_,_,⟨_,U,ao⟩,rfl⟩
   ·exact⟨rfl,fun k ab=>by simp[look]at ab,fun k ab=>by obtain rfl:=sP ab;exact .inr (.inl ⟨rfl,.inl (by rw[J];simp)⟩),fun k ab=>by simp at ab,fun _ bK o' ab ax=>by obtain rfl:=sP ab;rw[J]at ax;cases ax;exact h7,fun _ k o ab=>Kd ab⟩
   ·exact⟨rfl,fun k ab=>by simp[look]at ab,fun k ab=>by obtain rfl:=sP ab;exact .inr (.inl ⟨rfl,.inr ⟨d,rfl,rfl,U,ao⟩⟩),fun k ab=>by simp at ab;exact .inl ⟨d,rfl,ab.symm⟩,fun _ bK o' ab ax=>(by obtain rfl:=sP ab;rw[ao]at ax;cases ax),fun _ k o ab=>Kd ab⟩
  |bslm d key sz el xs=>simp only[en]at h
  |mks d key sz el z x=>simp only[en]at h
  |appm d key sz el u v=>simp only[en]at h;obtain⟨k,n,xs,kJ,ys,_,_,J,_,rfl⟩:=h;exact⟨rfl,fun k ab=>by simp[look]at ab,fun k ab=>by obtain rfl:=sP ab;exact .inr (.inr (.inr ⟨rfl,_,J,by simp⟩)),fun k ab=>by simp at ab,fun e=>by simp[ee.mode]at e,fun e=>by simp[ee.mode]at e⟩
  |storeE sz u v=>simp only[en]at h;obtain⟨k,n,i,f,el,dF,xs,q,_,J,_,_,rfl⟩:=h;exact⟨rfl,fun k ab=>by simp[look]at ab,fun k ab=>by obtain rfl:=sP ab;exact .inr (.inr (.inr ⟨rfl,_,J,by simp⟩)),fun k ab=>by simp at ab,fun e=>by simp[ee.mode]at e,fun e=>by simp[ee.mode]at e⟩
  |mkmap d key=>
   cases key with
   |none=>simp only[en]at h
   |some m=>simp only[en]at h;obtain⟨⟨_,U,ao⟩,rfl⟩:=h;exact⟨rfl,fun k ab=>by obtain rfl:=sP ab;exact .inr (.inr (.inr ⟨rfl,⟨m,rfl⟩,U,ao⟩)),fun k ab=>by simp[look]at ab,fun k ab=>by simp at ab;subst ab;exact .inr ⟨.inr rfl,⟨m,rfl⟩,.inl (by simp[look])⟩,fun e=>by simp[ee.mode]at e,fun e=>by simp[ee.mode]at e⟩
  |mput cd x k v=>simp only[en]at h;obtain⟨m,cs,cs',_,_,_,rfl⟩:=h;exact⟨rfl,fun k ab=>.inr (.inl rfl),fun k ab=>by simp[look]at ab,fun k ab=>by simp at ab,fun e=>by simp[ee.mode]at e,fun e=>by simp[ee.mode]at e⟩
  |range d key x=>simp only[en]at h
 |next d x=>simp only[en]at h
 |call d f xs=>
  simp only[en]at h;obtain⟨n,dj,_,h⟩:=h;rcases h with⟨⟨s,ai,r,rm,_,_,_,ax,RL,_,_,rfl⟩,br⟩|⟨cG,r,rfl,_,_,_,rfl⟩;rotate_left
  ·exact⟨rfl,fun k ab=>by simp[look]at ab,fun k ab=>by simp[look]at ab,fun k ab=>by simp at ab;exact .inl ⟨cG,rfl,ab.symm⟩,fun _ k o ab=>by simp[look]at ab,fun _ k o ab=>by simp[look]at ab⟩
  refine⟨rfl,fun k ab=>.inr (.inr (.inl ⟨rfl,?_,?_⟩)),fun k ab=>.inr (.inr (.inl ⟨rfl,?_,?_⟩)),fun k ab=>.inr ⟨.inl rfl,(RL.2.2.2.2 k ab).1,(RL.2.2.2.2 k ab).2.2.2.2⟩,fun e=>by simp[ee.mode]at e,fun e=>by simp[ee.mode]at e⟩
  ·cases k with
   |loc m=>rw[ax.1 m]at ab;cases ab
   |obj m=>exact⟨m,rfl⟩
  ·cases q with
   |false=>rfl
   |true=>rw[(br rfl).1]at ab;simp[look]at ab
  ·cases k with
   |loc m=>rw[ax.2 m]at ab;cases ab
   |obj m=>exact⟨m,rfl⟩
  ·cases q with
   |false=>rfl
   |true=>rw[(br rfl).2]at ab;simp[look]at ab
theorem MO{P:cD}{q:Bool}{n0:Nat}{i:ee}{A fZ:dg}{x:kA}(h:en P q n0 i A x)(aO:qd i.looks A.t fZ.t)
  (av:i.mode= .l→∀k,(q=true∨ ∃m,k= .loc m)→A.b k≠none→fZ.b k=A.b k) (RC:i.mode= .m→∀k,A.b k≠none→fZ.b k=A.b k)
  (kV:i.mode= .l→q=true→∀k o,A.e k=some o→o.xs≠none→fZ.e k=some o)
  (aA:∀d,i.dst=some d→(i.mode= .n∨i.mode= .s∨i.mode= .a∨i.mode= .c)→(A.F (.loc (n0+d))∧A.b (.loc (n0+d))=none∧A.e (.loc (n0+d))=none)→(fZ.F (.loc (n0+d))∧fZ.b (.loc (n0+d))=none∧fZ.e (.loc (n0+d))=none))
  (bt:i.mode= .a→∀k o,A.e k=some o→fZ.e k=some o) (hw:i.mode= .w→∀k,fZ.b k=A.b k) (aeA:i.mode= .k→∀m,(A.F (.obj m)∧A.b (.obj m)=none∧A.e (.obj m)=none)→(fZ.F (.obj m)∧fZ.b (.obj m)=none∧fZ.e (.obj m)=none)) (BV:i.mode= .r→∀k o,A.e k=some o→o.xs≠none→fZ.e k=some o)
  (au:i.mode= .c→∀m,fZ.b (.obj m)=A.b (.obj m)∧fZ.e (.obj m)=A.e (.obj m)∧(A.F (.obj m)→fZ.F (.obj m))):en P q n0 i fZ x:=by
 cases i with
 |s i=>
  cases i with
  |v d i=>
   simp only[en]at h⊢;obtain⟨c,p,J,U,ao,ba⟩:=h;by_cases jt:∃agg sz y,i= .loadB agg sz y
   ·obtain⟨agg,sz,y,rfl⟩:=jt;simp only[ee.looks,ei.looks,fM.looks]at aO;have tQ:=gl aO;refine⟨c,p,?_,U,fun _=>.inl rfl,ba⟩;rw[←J];simp only[pc,←tQ];have hm:=RC (by simp[ee.mode]);simp only[pc]at J;cases bI:du A.t y<;>simp only[rB];rename_i key off;rw[bI]at J;simp only[rB]at J;cases ad:A.b key with
    |none=>simp[ad]at J
    |some cs=>have:fZ.b key=A.b key:=hm key (by rw[ad];simp);rw[this,ad]
   by_cases Ex:∃cd zero ok y z,i= .mgetB cd zero ok y z
   ·obtain⟨cd,zero,ok,y,z,rfl⟩:=Ex;simp only[ee.looks,ei.looks,fM.looks]at aO;obtain⟨t1,t2⟩:=kc aO;refine⟨c,p,?_,U,fun _=>.inl rfl,ba⟩;simp only[pc]at J⊢;rw[←gl t1,←gl t2];exact TA (RC (by simp[ee.mode])) J
   replace ao:i.isLoad=true→q=true∨xB (i.ptrOf A.t)=true:=fun nA=>(ao nA).resolve_left (fun ad=>by cases i<;>simp[fM.isB]at ad;exact jt ⟨_,_,_,rfl⟩;exact Ex ⟨_,_,_,_,_,rfl⟩);have adS:i.isLoad=true→(ee.s (.v d i)).mode= .l:=by intro nA;cases i<;>simp only[fM.isLoad]at nA<;>first|(cases nA;done)|(simp[ee.mode,fM.isLoad];done)|exact absurd ⟨_,_,_,rfl⟩ jt|exact absurd ⟨_,_,_,_,_,rfl⟩ Ex
   by_cases nA:i.isLoad=true
   ·have br:∀(bI:xB (i.ptrOf A.t)=false),∀k,A.b k≠none→fZ.b k=A.b k:=fun bI k ab=>av (adS nA) k (.inl ((ao nA).resolve_right (by rw[bI];simp))) ab;cases i<;>simp only[fM.isLoad]at nA<;>try(cases nA;done)
    case mget cd zero ok y z=>simp only[ee.looks,ei.looks,fM.looks]at aO;obtain⟨t1,t2⟩:=kc aO;refine⟨c,p,?_,U,fun _=>.inr (ao rfl),ba⟩;simp only[pc]at J⊢;rw[←gl t1,←gl t2];exact TA (br rfl) J
    case ment y=>simp only[ee.looks,ei.looks,fM.looks]at aO;refine⟨c,p,?_,U,fun _=>.inr (ao rfl),ba⟩;simp only[pc]at J⊢;rw[←gl aO];exact afK (br rfl) J
    case mlen y=>simp only[ee.looks,ei.looks,fM.looks]at aO;refine⟨c,p,?_,U,fun _=>.inr (ao rfl),ba⟩;simp only[pc]at J⊢;rw[←gl aO];exact af5 (br rfl) J
    case loadB agg sz y=>exact absurd ⟨_,_,_,rfl⟩ jt
    case mgetB=>exact absurd ⟨_,_,_,_,_,rfl⟩ Ex
    rename_i agg sz y;simp only[ee.looks,ei.looks,fM.looks]at aO;have tQ:=gl aO;refine⟨c,p,?_,U,fun _=>.inr (by have:=ao rfl;simpa only[fM.ptrOf,←tQ]using this),ba⟩;rw[←J];simp only[pc,←tQ];have hm:=av (by simp[ee.mode,fM.isLoad]);simp only[pc]at J;have sq:=ao rfl;simp only[fM.ptrOf]at sq;cases bI:du A.t y<;>simp only[rB]
    ·rename_i key off;rw[bI]at J sq;simp only[rB]at J;cases ad:A.b key with
     |none=>simp[ad]at J
     |some cs=>have:fZ.b key=A.b key:=hm key (by rcases sq with h|h;exact .inl h;cases key;exact .inr ⟨_,rfl⟩;simp[xB]at h) (by rw[ad];simp);rw[this,ad]
    ·rename_i dF key n i f;rw[bI]at J sq;simp only[rB]at J;have aea:q=true:=sq.resolve_right (by simp[xB]);unfold x7 at J;split at J
     ·rename_i n' el jb xs he;rw[he,kV (by simp[ee.mode,fM.isLoad]) aea key _ he (by simp)]
     ·cases J
   ·have nA:i.isLoad=false:=by simpa using nA
    refine⟨c,p,?_,U,(fun e=>by rw[nA]at e;cases e),ba⟩;rw[←J];exact(akO (by simpa only[ee.looks,ei.looks]using aO) nA).symm
  |box d key v=>
   cases key with
   |some m=>simp only[en]at h
   |none=>simp only[en,ee.looks,ei.looks]at h aO⊢;obtain⟨J,U,ao⟩:=h;rw[←gl aO];exact⟨aA d rfl (.inl rfl) J,U,ao⟩
  |alloc d key z=>
   cases key with
   |some m=>simp only[en]at h
   |none=>simp only[en]at h⊢;exact⟨aA d rfl (.inl rfl) h.1,h.2⟩
  |store sz u v=>simp only[en,ee.looks,ei.looks]at h aO⊢;obtain⟨J,U⟩:=kc aO;rw[←gl J,←gl U];obtain⟨k,off,cs,g1,g2,g3,g4⟩:=h;exact⟨k,off,cs,g1,by rw[hw rfl];exact g2,g3,g4⟩
  |bsl d sz el xs=>simp only[en,ee.looks,ei.looks]at h aO⊢;rw[←Fz aO];exact⟨aA d rfl (.inr (.inl rfl)) h.1,h.2⟩
  |app d sz el u v=>
   simp only[en,ee.looks,ei.looks]at h aO⊢;obtain⟨J,U⟩:=kc aO;rw[←gl J,←gl U];obtain⟨tag,xs,kJ,ys,g1,g2,h⟩:=h;refine⟨tag,xs,kJ,ys,g1,g2,?_⟩;rcases h with⟨k,o,ak,aC,bk⟩|⟨ak,aC,bk,dc⟩
   ·exact .inl ⟨k,o,ak,bt rfl k o aC,bk⟩
   ·exact .inr ⟨ak,aC,aA d rfl (.inr (.inr (.inl rfl))) bk,dc⟩
  |bslm d key sz el xs=>simp only[en]at h
  |mks d key sz el z x=>simp only[en]at h
  |appm d key sz el u v=>simp only[en,ee.looks,ei.looks]at h aO⊢;obtain⟨J,U⟩:=kc aO;rw[←gl J,←gl U];obtain⟨k,n,xs,kJ,ys,g1,g2,g3,g4,g5⟩:=h;exact⟨k,n,xs,kJ,ys,g1,g2,BV rfl k _ g3 (by simp),g4,g5⟩
  |storeE sz u v=>simp only[en,ee.looks,ei.looks]at h aO⊢;obtain⟨J,U⟩:=kc aO;rw[←gl J,←gl U];obtain⟨k,n,i,f,el,dF,xs,q,g1,g2,g3⟩:=h;exact⟨k,n,i,f,el,dF,xs,q,g1,BV rfl k _ g2 (by simp),g3⟩
  |mkmap d key=>
   cases key with
   |none=>simp only[en]at h
   |some m=>simp only[en]at h⊢;exact⟨aeA rfl m h.1,h.2⟩
  |mput cd u k v=>simp only[en,ee.looks,ei.looks]at h aO⊢;obtain⟨t1,t3⟩:=kc aO;obtain⟨t1,t2⟩:=kc t1;obtain⟨m,cs,cs',g1,g2,g3,g4⟩:=h;rw[←gl t1,←gl t2,←gl t3];exact⟨m,cs,cs',g1,by rw[hw rfl];exact g2,g3,g4⟩
  |range d key x=>simp only[en]at h
 |next d x=>simp only[en]at h
 |call d f xs=>
  simp only[en,ee.looks]at h aO⊢;obtain⟨J,U⟩:=kc aO;rw[←gl J,←Fz U];obtain⟨n,dj,g1,h⟩:=h;rcases h with⟨⟨s,ai,r,rm,bH,cl,c9,ig,lJ,oO⟩,g3⟩|⟨cG,r,rfl,bH,cl⟩;rotate_left
  ·exact⟨n,dj,g1,.inr ⟨cG,r,rfl,aA cG rfl (.inr (.inr (.inr rfl))) bH,cl⟩⟩
  refine⟨n,dj,g1,.inl ⟨⟨s,ai,r,rm,fun k cs ab=>?_,fun k o ab=>?_,c9,ig,⟨lJ.1,lJ.2.1,lJ.2.2.1,lJ.2.2.2.1,fun k ab=>?_⟩,oO⟩,g3⟩⟩
  ·cases k with
   |loc m=>rw[c9.1 m]at ab;cases ab
   |obj m=>rw[(au rfl m).1];exact bH _ _ ab
  ·cases k with
   |loc m=>rw[c9.2 m]at ab;cases ab
   |obj m=>rw[(au rfl m).2.1];exact cl _ _ ab
  ·obtain⟨⟨j,rfl⟩,d2,d3,d4,d5⟩:=lJ.2.2.2.2 k ab;exact⟨⟨j,rfl⟩,(au rfl j).2.2 d2,by rw[(au rfl j).1];exact d3,by rw[(au rfl j).2.1];exact d4,d5⟩
def k2(d:aY Nat):kA:=⟨d,.tuple [],[],[],none⟩
def kB(P:cD)(q:Bool)(n0:Nat)(g:c4)(A:dg)(x:kA):Prop:=
 match g.g with
 |none=>en P q n0 g.i A x
 |some (s,w)=>match A.t s with
  | .bool b=>(b=w∧en P q n0 g.i A x)∨(b= !w∧x=k2 g.i.dst)
  | .tuple []=>x=k2 g.i.dst
  |_=>eK
def e0:AL→AL→Bool
 | .v,_=>true
 |_,.v=>true
 | .l,.l| .l,.n| .l,.s| .l,.a| .l,.c=>true
 | .n,.n| .n,.s| .n,.a| .n,.c=>true
 | .s,.l| .s,.n| .s,.s| .s,.c=>true
 | .a,.l| .a,.n| .a,.s=>true
 | .c,.l| .c,.n| .c,.s=>true
 | .l,.m| .m,.l| .m,.m| .m,.n| .m,.s| .m,.a| .s,.m| .a,.m=>true
 | .l,.k| .m,.k| .n,.k| .s,.k=>true
 | .m,.r| .r,.m| .r,.n| .r,.s| .n,.r| .s,.r| .r,.w| .w,.r=>true
 |_,_=>false
def yT(g h:c4):Bool:=(match g.i.dst with|some d=> !(h.looks.contains d)&&h.i.dst !=some d|none=>true)&&(match h.i.dst with|some d=> !(g.looks.contains d)|none=>true)&&e0 g.i.mode h.i.mode
theorem Wd(q:Bool)(n0:Nat)(m:AL)(d:aY Nat)(A:dg):Hc q n0 m d A (k2 d):=⟨rfl,fun k ab=>by simp[k2,look]at ab,fun k ab=>by simp[k2,look]at ab,fun k ab=>by simp[k2]at ab,fun _ k o ab=>by simp[k2,look]at ab,fun _ k o ab=>by simp[k2,look]at ab⟩
theorem Mc{P:cD}{q:Bool}{n0:Nat}{g:c4}{A:dg}{x:kA}(h:kB P q n0 g A x):Hc q n0 g.i.mode g.i.dst A x:=by
 unfold kB at h;split at h
 ·exact Wc h
 ·split at h
  ·rcases h with⟨_,h⟩|⟨_,rfl⟩
   ·exact Wc h
   ·exact Wd _ _ _ _ _
  ·subst h;exact Wd _ _ _ _ _
  ·exact h.elim
theorem sj{A:dg}{x:kA}{k:aH}(h:look k x.bw=none):(A.do x).b k=A.b k:=by simp[dg.do,ih,h]
theorem sk{A:dg}{x:kA}{k:aH}(h:look k x.ew=none):(A.do x).e k=A.e k:=by simp[dg.do,ih,h]
theorem HZ{A:dg}{x:kA}{k:aH}(h:(A.do x).b k=none):A.b k=none:=by
 simp only[dg.do,ih]at h;split at h
 ·cases h
 ·exact h
theorem H0{A:dg}{x:kA}{k:aH}(h:(A.do x).e k=none):A.e k=none:=by
 simp only[dg.do,ih]at h;split at h
 ·cases h
 ·exact h
theorem ly{α:Type}{o:aY α}(h:¬o.isSome):o=none:=by cases o<;>simp at h⊢
theorem MQ{P:cD}{q:Bool}{n0:Nat}{g:c4}{A fZ:dg}{x:kA}(h:kB P q n0 g A x)(aO:qd g.looks A.t fZ.t)(hm:en P q n0 g.i A x→en P q n0 g.i fZ x):kB P q n0 g fZ x:=by
 unfold kB at h⊢;cases a1:g.g with
 |none=>simp only[a1]at h⊢;exact hm h
 |some yf=>
  obtain⟨s,w⟩:=yf;have:A.t s=fZ.t s:=aO s (by simp[c4.looks,a1]);simp only[a1,this]at h⊢;split at h
  ·rcases h with⟨J,U⟩|h
   ·exact .inl ⟨J,hm U⟩
   ·exact .inr h
  ·exact h
  ·exact h
theorem swap{P:cD}{q:Bool}{n0:Nat}{g h:c4}(Rt:yT g h=true){A:dg}{x y:kA}(ae:kB P q n0 g A x)(aL:kB P q n0 h (A.do x) y):
  kB P q n0 h A y∧kB P q n0 g (A.do y) x∧x.apart y:=by
 simp only[yT,cC]at Rt;obtain⟨⟨fm,eF⟩,hm⟩:=Rt;have yi:=Mc ae;have cF:∀d cc,g.i.dst=some d→h.i.dst=some cc→d≠cc:=by intro d cc ak aC e;simp only[ak,cC,bne_iff_ne]at fm;exact fm.2 (by rw[aC,e])
 have Ez:qd h.looks (A.do x).t A.t:=by intro i hi;simp only[dg.do];rw[if_neg];intro e;rw[yi.d]at e;simp only[e,cC,Bool.not_eq_true',List.contains_eq_mem,gz]at fm;exact fm.1 hi
 have qt:∀k,(look k x.bw).isSome→_:=yi.b;have hle:∀k,(look k x.ew).isSome→_:=yi.e;have SH:kB P q n0 h A y:=by
  refine MQ aL Ez fun mM=>MO mM (fun i hi=>Ez i (by simp[c4.looks,hi])) (fun e k ab ad=>?_) (fun e k ad=>?_) (fun e br k o ax h7=>?_) (fun d aP vr lh=>?_) (fun e k o ax=>?_) (fun e k=>?_) (fun e m lh=>⟨lh.1.1,HZ lh.2.1,H0 lh.2.2⟩) (fun e k o ax h7=>?_) (fun e m=>?_)
  ·rw[sj (ly fun ag=>?_)];rcases qt k ag with⟨ak,_⟩|ak|⟨ak,⟨j,aC⟩,bk⟩|⟨ak,_⟩;rotate_left 3
   ·rw[e,ak]at hm;simp[e0]at hm
   ·rw[e,ak]at hm;simp[e0]at hm
   ·rw[e,ak]at hm;simp[e0]at hm
   ·rcases ab with ab|⟨m,ab⟩
    ·rw[ab]at bk;cases bk
    ·rw[ab]at aC;cases aC
  ·rw[sj (ly fun ag=>?_)];rcases qt k ag with⟨ak,_⟩|ak|⟨ak,_⟩|⟨ak,_⟩<;>(rw[e,ak]at hm;simp[e0]at hm)
  ·rw[e]at hm;cases hV:look k x.ew with
   |none=>rw[sk hV]at ax;exact ax
   |some o'=>
    exfalso;have Jm:(A.do x).e k=some o':=by simp[dg.do,ih,hV]
    rw[Jm]at ax;cases ax;rcases hle k (by simp[hV])with⟨ak,_⟩|⟨ak,_⟩|⟨ak,_,bk⟩|⟨ak,_⟩
    ·exact h7 (yi.xn (.inr ak) k _ hV)
    ·exact h7 (yi.xn (.inl ak) k _ hV)
    ·rw[br]at bk;cases bk
    ·rw[ak]at hm;simp[e0]at hm
  ·exact⟨lh.1.1,HZ lh.2.1,H0 lh.2.2⟩
  ·rw[sk (ly fun ag=>?_)]at ax
   ·exact ax
   ·rw[e]at hm;rcases hle k ag with⟨ak,_⟩|⟨ak,_⟩|⟨ak,_⟩|⟨ak,_⟩<;>(rw[ak]at hm;simp[e0]at hm)
  ·rw[sj (ly fun ag=>?_)];rw[e]at hm;rcases qt k ag with⟨ak,_⟩|ak|⟨ak,_⟩|⟨ak,_⟩<;>(rw[ak]at hm;simp[e0]at hm)
  ·rw[e]at hm;cases hV:look k x.ew with
   |none=>rw[sk hV]at ax;exact ax
   |some o'=>
    exfalso;have Jm:(A.do x).e k=some o':=by simp[dg.do,ih,hV]
    rw[Jm]at ax;cases ax;rcases hle k (by simp[hV])with⟨ak,_⟩|⟨ak,_⟩|⟨ak,_⟩|⟨ak,_⟩
    ·exact h7 (yi.xn (.inr ak) k _ hV)
    ·rw[ak]at hm;simp[e0]at hm
    ·rw[ak]at hm;simp[e0]at hm
    ·rw[ak]at hm;simp[e0]at hm
  ·rw[e]at hm;refine⟨?_,?_,fun gE=>gE.1⟩
   ·rw[sj (ly fun ag=>?_)];rcases qt _ ag with⟨ak,d,_,aC,_⟩|ak|⟨ak,_⟩|⟨ak,_⟩;rotate_left 3
    ·rw[ak]at hm;simp[e0]at hm
    ·cases aC
    ·rw[ak]at hm;simp[e0]at hm
    ·rw[ak]at hm;simp[e0]at hm
   ·rw[sk (ly fun ag=>?_)];rcases hle _ ag with⟨ak,d,_,aC,_⟩|⟨ak,_⟩|⟨ak,_⟩|⟨ak,_⟩
    ·cases aC
    ·rw[ak]at hm;simp[e0]at hm
    ·rw[ak]at hm;simp[e0]at hm
    ·rw[ak]at hm;simp[e0]at hm
 have ty:=Mc SH;have Q9:qd g.looks A.t (A.do y).t:=by intro i hi;simp only[dg.do];rw[if_neg];intro e;rw[ty.d]at e;simp only[e,Bool.not_eq_true',List.contains_eq_mem,gz]at eF;exact eF hi
 refine⟨SH,?_,?_⟩
 ·refine MQ ae Q9 fun mM=>MO mM (fun i hi=>Q9 i (by simp[c4.looks,hi])) (fun e k ab ad=>?_) (fun e k ad=>?_) (fun e br k o ax h7=>?_) (fun d aP vr lh=>?_) (fun e k o ax=>?_) (fun e k=>?_) (fun e m lh=>?_) (fun e k o ax h7=>?_) (fun e m=>?_)
  ·refine sj (ly fun ag=>?_);rcases ty.b k ag with⟨ak,d,_,_,aC,_⟩|ak|⟨ak,⟨j,aC⟩,bk⟩|⟨_,_,aC,_⟩;rotate_left 3
   ·exact ad aC
   ·exact ad aC
   ·rw[e,ak]at hm;simp[e0]at hm
   ·rcases ab with ab|⟨m,ab⟩
    ·rw[ab]at bk;cases bk
    ·rw[ab]at aC;cases aC
  ·refine sj (ly fun ag=>?_);rcases ty.b k ag with⟨ak,d,_,_,aC,_⟩|ak|⟨ak,_⟩|⟨_,_,aC,_⟩;rotate_left 3
   ·exact ad aC
   ·exact ad aC
   ·rw[e,ak]at hm;simp[e0]at hm
   ·rw[e,ak]at hm;simp[e0]at hm
  ·rw[sk (ly fun ag=>?_)]
   ·exact ax
   ·rcases ty.e k ag with⟨ak,d,_,_,_,aC⟩|⟨ak,aC⟩|⟨ak,_,bk⟩|⟨ak,_⟩
    ·rw[aC]at ax;cases ax
    ·exact h7 (ty.ex ak k o ag ax)
    ·rw[br]at bk;cases bk
    ·rw[e,ak]at hm;simp[e0]at hm
  ·refine⟨⟨lh.1,fun ql=>?_⟩,?_,?_⟩
   ·rcases ty.r _ ql with⟨cc,ak,aC⟩|⟨_,⟨j,aC⟩,_⟩
    ·simp only[aH.loc.injEq]at aC;exact cF d cc aP ak (by omega)
    ·cases aC
   ·rw[sj (ly fun ag=>?_)]
    ·exact lh.2.1
    ·rcases ty.b _ ag with⟨ak,cc,aC,bk,_⟩|ak|⟨ak,⟨j,aC⟩,_⟩|⟨ak,⟨j,aC⟩,_⟩;rotate_left 3
     ·cases aC
     ·simp only[aH.loc.injEq]at bk;exact cF d cc aP aC (by omega)
     ·rcases vr with aC|aC|aC|aC<;>(rw[ak,aC]at hm;simp[e0]at hm)
     ·cases aC
   ·rw[sk (ly fun ag=>?_)]
    ·exact lh.2.2
    ·rcases ty.e _ ag with⟨ak,cc,aC,bk,_⟩|⟨ak,aC⟩|⟨ak,⟨j,aC⟩,_⟩|⟨ak,o,aC,_⟩
     ·simp only[aH.loc.injEq]at bk;exact cF d cc aP aC (by omega)
     ·rcases aC with aC|⟨cc,aC,bk,_⟩
      ·exact aC lh.2.2
      ·simp only[aH.loc.injEq]at bk;exact cF d cc aP aC (by omega)
     ·cases aC
     ·rw[lh.2.2]at aC;cases aC
  ·rw[sk (ly fun ag=>?_)]
   ·exact ax
   ·rw[e]at hm;rcases ty.e k ag with⟨ak,d,_,_,_,aC⟩|⟨ak,_⟩|⟨ak,_⟩|⟨ak,_⟩
    ·rw[aC]at ax;cases ax
    ·rw[ak]at hm;simp[e0]at hm
    ·rw[ak]at hm;simp[e0]at hm
    ·rw[ak]at hm;simp[e0]at hm
  ·refine sj (ly fun ag=>?_);rw[e]at hm;rcases ty.b k ag with⟨ak,_⟩|ak|⟨ak,_⟩|⟨ak,_⟩<;>(rw[ak]at hm;simp[e0]at hm)
  ·rw[e]at hm;refine⟨⟨lh.1,fun ql=>?_⟩,?_,?_⟩
   ·rcases ty.r _ ql with⟨cc,ak,aC⟩|⟨ak|ak,_⟩
    ·cases aC
    ·rw[ak]at hm;simp[e0]at hm
    ·rw[ak]at hm;simp[e0]at hm
   ·rw[sj (ly fun ag=>?_)]
    ·exact lh.2.1
    ·rcases ty.b _ ag with⟨ak,_⟩|ak|⟨ak,_⟩|⟨ak,_⟩<;>(rw[ak]at hm;simp[e0]at hm)
   ·rw[sk (ly fun ag=>?_)]
    ·exact lh.2.2
    ·rcases ty.e _ ag with⟨ak,_⟩|⟨ak,_⟩|⟨ak,_⟩|⟨ak,o,aC,_⟩
     ·rw[ak]at hm;simp[e0]at hm
     ·rw[ak]at hm;simp[e0]at hm
     ·rw[ak]at hm;simp[e0]at hm
     ·rw[lh.2.2]at aC;cases aC
  ·rw[sk (ly fun ag=>?_)]
   ·exact ax
   ·rw[e]at hm;rcases ty.e k ag with⟨ak,d,_,_,_,aC⟩|⟨ak,_⟩|⟨ak,_⟩|⟨ak,_⟩
    ·rw[aC]at ax;cases ax
    ·rw[ak]at hm;simp[e0]at hm
    ·rw[ak]at hm;simp[e0]at hm
    ·rw[ak]at hm;simp[e0]at hm
  ·rw[e]at hm;refine⟨?_,?_,fun gE=>⟨gE,fun ql=>?_⟩⟩;rotate_left 2
   ·rcases ty.r _ ql with⟨cc,_,aC⟩|⟨aC|aC,_⟩
    ·cases aC
    ·rw[aC]at hm;simp[e0]at hm
    ·rw[aC]at hm;simp[e0]at hm
   ·refine sj (ly fun ag=>?_);rcases ty.b _ ag with⟨ak,d,_,aC,_⟩|ak|⟨ak,_⟩|⟨ak,_⟩;rotate_left 3
    ·rw[ak]at hm;simp[e0]at hm
    ·cases aC
    ·rw[ak]at hm;simp[e0]at hm
    ·rw[ak]at hm;simp[e0]at hm
   ·refine sk (ly fun ag=>?_);rcases ty.e _ ag with⟨ak,d,_,aC,_⟩|⟨ak,_⟩|⟨ak,_⟩|⟨ak,_⟩
    ·cases aC
    ·rw[ak]at hm;simp[e0]at hm
    ·rw[ak]at hm;simp[e0]at hm
    ·rw[ak]at hm;simp[e0]at hm
 ·refine⟨fun i hi e=>?_,fun k ab=>ly fun ag=>?_,fun k ab=>ly fun ag=>?_⟩
  ·rw[yi.d]at hi;rw[ty.d]at e;exact cF i i hi e rfl
  ·rcases qt k ab with⟨bC,d,a2,a3,_⟩|bC|⟨bC,⟨j,a2⟩,_⟩|⟨bC,_⟩<;>rcases ty.b k ag with⟨ch,cc,b6,fC,_⟩|ch|⟨ch,⟨dx,b6⟩,_⟩|⟨ch,⟨dx,b6⟩,_⟩;all_goals first|(rw[bC,ch]at hm;simp[e0]at hm;done)|skip
   ·rw[a3]at fC;simp only[aH.loc.injEq]at fC;exact cF d cc a2 b6 (by omega)
   ·rw[a3]at b6;cases b6
   ·rw[a3]at b6;cases b6
   ·rw[a2]at fC;cases fC
  ·rcases hle k ab with⟨bC,d,a2,a3,_,a4⟩|⟨bC,a2⟩|⟨bC,⟨j,a2⟩,_⟩|⟨bC,gP,a2,_⟩<;>rcases ty.e k ag with⟨ch,cc,b6,fC,_,nW⟩|⟨ch,b6⟩|⟨ch,⟨dx,b6⟩,_⟩|⟨ch,gG,b6,_⟩
   ·rw[a3]at fC;simp only[aH.loc.injEq]at fC;exact cF d cc a2 b6 (by omega)
   ·rw[bC,ch]at hm;simp[e0]at hm
   ·rw[a3]at b6;cases b6
   ·rw[a4]at b6;cases b6
   ·rcases a2 with a2|⟨d,a2,a3,_⟩
    ·exact a2 nW
    ·rw[a3]at fC;simp only[aH.loc.injEq]at fC;exact cF d cc a2 b6 (by omega)
   ·rw[bC,ch]at hm;simp[e0]at hm
   ·rw[bC,ch]at hm;simp[e0]at hm
   ·rw[bC,ch]at hm;simp[e0]at hm
   ·rw[a2]at fC;cases fC
   ·rw[bC,ch]at hm;simp[e0]at hm
   ·rw[bC,ch]at hm;simp[e0]at hm
   ·rw[bC,ch]at hm;simp[e0]at hm
   ·rw[nW]at a2;cases a2
   ·rw[bC,ch]at hm;simp[e0]at hm
   ·rw[bC,ch]at hm;simp[e0]at hm
   ·rw[bC,ch]at hm;simp[e0]at hm
def wF(C:e9)(A:dg)(a:Act)(w:World):Prop:= ∃st ν,k7 st A∧(∀k,A.F k→fresh st.n st.o k)∧cS C st a w ν
theorem Ka{st:bq}{A:dg}(h:k7 st A)(d:Nat)(p:ah):k7 {st with t:=put d p st.t} (A.do ⟨some d,p,[],[],none⟩):=by
 refine⟨fun i=>?_,fun k=>?_,fun k=>?_⟩
 ·simp only[dg.do,oX,dG,h.t]
 ·simpa[dg.do,ih,look]using h.b k
 ·simpa[dg.do,ih,look]using h.e k
theorem Tk{st:bq}{A:dg}(h:k7 st A)(d:Nat)(p:ah)(o':List aH)(rm:aY aH):k7 {st with t:=put d p st.t,o:=o'} (A.do ⟨some d,p,[],[],rm⟩):=by have:=Ka h d p;exact⟨this.t,this.b,this.e⟩
theorem WS{α:Type}{β:Type}:∀l:List (aH×α),cz ([]:List (aH×β)) l=l
 |[]=>rfl
 |(k,x)::r=>by simp[cz,look,WS r]
theorem zE{st:bq}{A:dg}(h:k7 st A)(d:Nat)(p:ah)(κ:aH)(cs:List ah)(n':Nat)(o':List aH)(rm:aY aH):k7 ⟨put d p st.t,cA κ cs st.b,st.e,n',o'⟩ (A.do ⟨some d,p,[(κ,cs)],[],rm⟩):=by
 refine⟨fun i=>?_,fun k=>?_,fun k=>?_⟩
 ·simp only[dg.do,oX,dG,h.t]
 ·simp only[dg.do,ih,look,iH,h.b];by_cases e:κ=k<;>simp[e]
 ·simpa[dg.do,ih,look]using h.e k
theorem Fu{st:bq}{A:dg}(h:k7 st A)(κ:aH)(cs:List ah)(p:ah):k7 {st with b:=cA κ cs st.b} (A.do ⟨none,p,[(κ,cs)],[],none⟩):=by
 refine⟨fun i=>?_,fun k=>?_,fun k=>?_⟩
 ·simpa[dg.do]using h.t i
 ·simp only[dg.do,ih,look,iH,h.b];by_cases e:κ=k<;>simp[e]
 ·simpa[dg.do,ih,look]using h.e k
theorem vM{st:bq}{A:dg}(h:k7 st A)(d:Nat)(p:ah)(κ:aH)(o:fK)(n':Nat)(o':List aH)(rm:aY aH):k7 ⟨put d p st.t,st.b,cA κ o st.e,n',o'⟩ (A.do ⟨some d,p,[],[(κ,o)],rm⟩):=by
 refine⟨fun i=>?_,fun k=>?_,fun k=>?_⟩
 ·simp only[dg.do,oX,dG,h.t]
 ·simpa[dg.do,ih,look]using h.b k
 ·simp only[dg.do,ih,look,iH,h.e];by_cases e:κ=k<;>simp[e]
theorem Tj{st:bq}{A:dg}(h:k7 st A)(κ:aH)(o:fK)(p:ah):k7 {st with e:=cA κ o st.e} (A.do ⟨none,p,[],[(κ,o)],none⟩):=by
 refine⟨fun i=>?_,fun k=>?_,fun k=>?_⟩
 ·simpa[dg.do]using h.t i
 ·simpa[dg.do,ih,look]using h.b k
 ·simp only[dg.do,ih,look,iH];by_cases e:κ=k<;>simp[e,h.e]
theorem Kp{α:Type}{k:aH}:∀{l:List (aH×α)},k∈l.map (·.1)→(look k l).isSome
 |[],h=>by simp at h
 |(i,x)::r,h=>by
  simp only[look];split
  ·rfl
  ·rename_i e;simp only[hf,fY]at h;rcases h with h|h
   ·exact absurd h.symm e
   ·exact Kp h
theorem vb{n:Nat}{o:List aH}{κ:aH}:∀j,fresh n (κ::o) j→fresh n o j∧j≠κ:=by intro j af;simp only[fresh,fY,not_or]at af⊢;exact⟨⟨af.1,af.2.2⟩,af.2.1⟩
theorem abY{n:Nat}{o:List aH}{κ j:aH}(h:fresh n o j)(af:some κ≠some j):fresh n (κ::o) j:=by simp only[fresh,fY,not_or]at h⊢;exact⟨h.1,fun e=>af (by rw[e]),h.2⟩
theorem MP{P:cD}{bB:List (Nat×dA)}(aO:fL P bB=true){C:e9}{q:Bool}{n0:Nat}{i:ee}{o:Oper}(ax:uC C.N bB i o=true){A:dg}{x:kA}(ae:en P q n0 i A x){a:Act}{w:World}(aK:wF C A a w)
  {K:Act→World→Prop} {Q:Exit→Act→World→Prop} (c1:∀bn w',wF C (A.do x) bn w'→K bn w'):o.wp P a w K Q:=by
 obtain⟨st,ν,av,gE,aK⟩:=aK;have w5:∀(t:List (Nat×ah)) (b:List (aH×List ah)) (e:List (aH×fK)) (d:aY Nat) (p:ah) (bw:List (aH×List ah)) (ew:List (aH×fK)),∀k,(A.do ⟨d,p,bw,ew,none⟩).F k→fresh st.n st.o k:=fun t b e d p bw ew k ab=>gE k ab.1;have mL:∀(d:aY Nat) (p:ah) (bw:List (aH×List ah)) (ew:List (aH×fK)) (κ:aH),∀k,(A.do ⟨d,p,bw,ew,some κ⟩).F k→fresh st.n (κ::st.o) k:=fun d p bw ew κ k ab=>abY (gE k ab.1) ab.2;cases i with
 |s i=>
  have hK:C3 C.N bB i o=true:=by simpa only[uC]using ax
  cases i with
  |v d i=>simp only[en]at ae;obtain⟨c,p,J,U,_,rfl⟩:=ae;rw[←Wj av]at J;refine jF (κ:= .loc 0) (n':=0) (o₁:=[]) aO aK hK (fun h=>by simp[ei.makes]at h) (fun h=>by simp[ei.makes]at h) (st':={st with t:=put d p st.t}) (by simp only[eA,J]) U fun bn w' bo ca=>c1 _ _ ⟨_,bo,Ka av d p,fun k ab=>gE k ab.1,ca⟩
  |box d key v=>
   cases key with
   |some m=>simp only[en]at ae
   |none=>simp only[en]at ae;obtain⟨⟨J,_⟩,U,rfl⟩:=ae;rw[←iB av]at U;refine jF (κ:= .loc (n0+d)) (n':=st.n) (o₁:= .loc (n0+d)::st.o) aO aK hK (fun _=>gE _ J) (fun _=>vb) (st':=⟨put d (.ptr (.loc (n0+d)) 0) st.t,cA (.loc (n0+d)) (cells (cp st.t v)) st.b,st.e,st.n,.loc (n0+d)::st.o⟩) (by simp only[eA]) U fun bn w' bo ca=>c1 _ _ ⟨_,bo,?_,mL _ _ _ _ _,ca⟩;rw[iB av];exact zE av d _ _ _ _ _ _
  |alloc d key z=>
   cases key with
   |some m=>simp only[en]at ae
   |none=>simp only[en]at ae;obtain⟨⟨J,_⟩,rfl⟩:=ae;refine jF (κ:= .loc (n0+d)) (n':=st.n) (o₁:= .loc (n0+d)::st.o) aO aK hK (fun _=>gE _ J) (fun _=>vb) (st':=⟨put d (.ptr (.loc (n0+d)) 0) st.t,cA (.loc (n0+d)) (cells z) st.b,st.e,st.n,.loc (n0+d)::st.o⟩) (by simp only[eA]) trivial fun bn w' bo ca=>c1 _ _ ⟨_,bo,zE av d _ _ _ _ _ _,mL _ _ _ _ _,ca⟩
  |store sz u v=>simp only[en]at ae;obtain⟨k,off,cs,J,U,ao,rfl⟩:=ae;rw[←iB av]at J ao;rw[←av.b]at U;refine jF (κ:= .loc 0) (n':=0) (o₁:=[]) aO aK hK (fun h=>by simp[ei.makes]at h) (fun h=>by simp[ei.makes]at h) (st':={st with b:=cA k (nI cs off (cells (cp st.t v))) st.b}) (by simp only[eA,J,U]) ao fun bn w' bo ca=>c1 _ _ ⟨{st with b:=cA k (nI cs off (cells (cp st.t v))) st.b},bo,by rw[iB av];exact Fu av k _ _,fun k ab=>gE k ab.1,ca⟩
  |bsl d sz el xs=>simp only[en]at ae;obtain⟨⟨J,_⟩,U,rfl⟩:=ae;rw[←tH av]at U;refine jF (κ:= .loc (n0+d)) (n':=st.n) (o₁:= .loc (n0+d)::st.o) aO aK hK (fun _=>gE _ J) (fun _=>vb) (st':=⟨put d (.slice sz (.own (.loc (n0+d))) (xs.map (cp st.t))) st.t,st.b,cA (.loc (n0+d)) ⟨xs.length,el,sz,none⟩ st.e,st.n,.loc (n0+d)::st.o⟩) (by simp only[eA]) U fun bn w' bo ca=>c1 _ _ ⟨_,bo,?_,mL _ _ _ _ _,ca⟩;rw[tH av];exact vM av d _ _ _ _ _ _
  |app d sz el u v=>
   simp only[en]at ae;obtain⟨tag,xs,kJ,ys,J,U,ae⟩:=ae;rw[←iB av]at J U;rcases ae with⟨k,ow,rfl,ao,ba,rfl⟩|⟨rfl,ao,⟨ba,_⟩,rfl⟩
   ·rw[←av.e]at ao;refine jF (κ:= .loc 0) (n':=0) (o₁:=[]) aO aK hK (fun h=>by simp[ei.makes,J]at h) (fun h=>by simp[ei.makes,J]at h) (st':=⟨put d (.slice sz (.own k) (xs++ys)) st.t,st.b,cA k ⟨xs.length+ys.length,el,sz,none⟩ st.e,st.n,st.o⟩) (by simp only[eA,J,U,ao,and_self,if_true]) ba.2 fun bn w' bo ca=>c1 _ _ ⟨_,bo,vM av d _ _ _ _ _ _,fun k ab=>gE k ab.1,ca⟩
   ·refine jF (κ:= .loc (n0+d)) (n':=st.n) (o₁:= .loc (n0+d)::st.o) aO aK hK (fun _=>gE _ ba) (fun _=>vb) (st':=⟨put d (.slice sz (.own (.loc (n0+d))) ys) st.t,st.b,cA (.loc (n0+d)) ⟨ys.length,el,sz,none⟩ st.e,st.n,.loc (n0+d)::st.o⟩) (by simp only[eA,J,U,and_self,if_true]) ao fun bn w' bo ca=>c1 _ _ ⟨_,bo,vM av d _ _ _ _ _ _,mL _ _ _ _ _,ca⟩
  |bslm d key sz el xs=>simp only[en]at ae
  |mks d key sz el z x=>simp only[en]at ae
  |appm d key sz el u v=>simp only[en]at ae;obtain⟨k,n,xs,kJ,ys,J,U,ao,ba,rfl⟩:=ae;rw[←iB av]at J U;rw[←av.e]at ao;refine jF (κ:= .loc 0) (n':=0) (o₁:=[]) aO aK hK (fun h=>by simp[ei.makes,J]at h) (fun h=>by simp[ei.makes,J]at h) (st':=⟨put d (.row sz k (xs.length+ys.length)) st.t,st.b,cA k ⟨xs.length+ys.length,el,sz,some (xs++ys)⟩ st.e,st.n,st.o⟩) (by simp only[eA,se,J,U,ao,and_self,if_true]) ba fun bn w' bo ca=>c1 _ _ ⟨_,bo,vM av d _ _ _ _ _ _,fun k ab=>gE k ab.1,ca⟩
  |storeE sz u v=>simp only[en]at ae;obtain⟨k,n,i,f,el,dF,xs,q,J,U,ao,ba,rfl⟩:=ae;rw[←iB av]at J ba;rw[←av.e]at U;refine jF (κ:= .loc 0) (n':=0) (o₁:=[]) aO aK hK (fun h=>by simp[ei.makes]at h) (fun h=>by simp[ei.makes]at h) (st':={st with e:=cA k ⟨n,el,dF,some (xs.set i (mw q f (cells (cp st.t v))))⟩ st.e}) (by simp only[eA,qG,J,U,ao,and_self,if_true]) ba fun bn w' bo ca=>c1 _ _ ⟨{st with e:=cA k ⟨n,el,dF,some (xs.set i (mw q f (cells (cp st.t v))))⟩ st.e},bo,by rw[iB av];exact Tj av k _ _,fun k ab=>gE k ab.1,ca⟩
  |mkmap d key=>
   cases key with
   |none=>simp only[en]at ae
   |some m=>simp only[en]at ae;obtain⟨⟨J,_⟩,rfl⟩:=ae;exact jF (κ:= .obj m) (n':=st.n) (o₁:= .obj m::st.o) aO aK hK (fun _=>gE _ J) (fun _=>vb) (st':=⟨put d (.gmap (.obj m)) st.t,cA (.obj m) [.hdm 0 []] st.b,st.e,st.n,.obj m::st.o⟩) (by simp only[eA]) trivial fun bn w' bo ca=>c1 _ _ ⟨_,bo,zE av d _ _ _ _ _ _,mL _ _ _ _ _,ca⟩
  |mput cd u k v=>simp only[en]at ae;obtain⟨m,cs,cs',J,U,ao,rfl⟩:=ae;rw[←iB av]at J;rw[←iB av,←iB av]at ao;rw[←av.b]at U;exact jF (κ:= .loc 0) (n':=0) (o₁:=[]) aO aK hK (fun h=>by simp[ei.makes]at h) (fun h=>by simp[ei.makes]at h) (st':={st with b:=cA m cs' st.b}) (by simp only[eA,J,U,ao]) trivial fun bn w' bo ca=>c1 _ _ ⟨{st with b:=cA m cs' st.b},bo,Fu av m _ _,fun k ab=>gE k ab.1,ca⟩
  |range d key x=>simp only[en]at ae
 |next d x=>simp only[en]at ae
 |call d f xs=>
  simp only[en]at ae;obtain⟨n,dj,J,ae⟩:=ae;rw[←iB av]at J;rcases ae with⟨⟨s,ai,r,rm,bH,cl,c9,ig,lJ,oO,AZ,rfl⟩,_⟩|⟨cG,r,rfl,bH,cl,c9,rfl⟩;rotate_left
  ·rw[←tH av]at cl c9;simp only[uC]at ax;split at ax
   ·rename_i q0 args Aw mS;simp only[cC,dO]at ax;obtain⟨⟨⟨ak,aC⟩,bk⟩,dc⟩:=ax;have lN:=eh aK bk;rw[J]at lN;refine Pz aK mS ak aC lN (CX aK dc) (K:=fun st'=>st'={st with t:=put cG r st.t,o:= .loc (n0+cG)::st.o}) ⟨⟨[],[]⟩,_,some (n0+cG),st.n,fun _=>.loc (n0+cG)::st.o,fun k cs ab=>by simp[look]at ab,fun k cs ab=>by simp[look]at ab,⟨fun _=>rfl,fun _=>rfl⟩,jM (fun _ h=>h.elim) _ cl,c9,fun m hm=>?_,fun k eC ai br ab=>?_,?_⟩ ?_
    ·cases hm;exact gE _ bH.1
    ·obtain⟨_,rfl⟩:=br;have:=vb k ab;exact⟨by simpa[cV]using this.1,fun m hm=>by cases hm;exact this.2⟩
    ·rintro eC ov ⟨rfl,rfl⟩;refine⟨⟨fun m hm=>by simp[look]at hm,fun m hm=>by simp[look]at hm⟩,?_⟩;simp[after,WS,eH]
    ·rintro st' bn w' bo rfl ca;exact c1 _ _ ⟨_,bo,Tk av cG r _ _,mL _ _ _ _ _,ca⟩
   ·cases ax
  rw[←tH av]at oO AZ;simp only[uC]at ax;split at ax
  ·rename_i q0 args Aw mS;simp only[cC,dO]at ax;obtain⟨⟨⟨ak,aC⟩,bk⟩,dc⟩:=ax;have lN:=eh aK bk;rw[J]at lN;obtain⟨aU,bG,b9,eV,dd⟩:=lJ;refine Py aK mS ak aC lN (CX aK dc) (K:=fun st'=>st'=after st s ai d r) (.inl ⟨s,_,fun k cs ab=>⟨by rw[av.b];exact(bH k cs ab).1,.inl (by simp[ab]),(bH k cs ab).2⟩,fun k o' ab=>⟨by rw[av.e];exact(cl k o' ab).1,.inr (by simp[ab]),(cl k o' ab).2⟩,c9,oO,AZ,?_⟩) ?_
   ·rintro eC ov ⟨rfl,rfl⟩;refine⟨⟨fun m hm=>?_,fun m hm=>?_⟩,rfl⟩
    ·rcases aU _ hm with h|h
     ·exact .inl h
     ·exact .inr (gE _ (dd _ h).2.1).2
    ·rcases bG _ hm with h|h
     ·exact .inl h
     ·exact .inr (gE _ (dd _ h).2.1).2
   ·rintro st' bn w' bo rfl ca;refine c1 _ _ ⟨_,bo,⟨fun i=>?_,fun k=>?_,fun k=>?_⟩,fun k ab=>?_,ca⟩
    ·simp only[after,dg.do];cases d with
     |none=>simpa[eH]using av.t i
     |some d=>simp only[eH,oX,dG,av.t]
    ·simp only[after,dg.do,ih,xK,ur];by_cases ag:(look k s.b).isSome
     ·have:=b9 k ag;obtain⟨y,aL⟩:=fJ.1 this;simp[ag,aL]
     ·cases aA:look k ai.b with
      |none=>simp only[ag,av.b];cases A.b k<;>simp
      |some y=>
       rcases aU k (by simp[aA])with h|h
       ·exact absurd h ag
       ·have:=dd k h;simp[ag,av.b,this]
    ·simp only[after,dg.do,ih,xK,ur];by_cases ag:(look k s.e).isSome
     ·have:=eV k ag;obtain⟨y,aL⟩:=fJ.1 this;simp[ag,aL]
     ·cases aA:look k ai.e with
      |none=>simp only[ag,av.e];cases A.e k<;>simp
      |some y=>
       rcases bG k (by simp[aA])with h|h
       ·exact absurd h ag
       ·have:=dd k h;simp[ag,av.e,this]
    ·have I6:=gE k ab.1;have n9:=aK.lookNone I6;simp only[after];refine⟨I6.1,fun jw=>?_⟩;rcases ky.1 jw with jw|jw
     ·exact I6.2 jw
     ·rcases ky.1 jw with jw|jw
      ·rcases aU k (Kp jw)with h|h
       ·obtain⟨y,aL⟩:=fJ.1 h;have:=(bH k y aL).1;rw[←av.b,n9.1]at this;cases this
       ·exact ab.2 h
      ·rcases bG k (Kp jw)with h|h
       ·obtain⟨y,aL⟩:=fJ.1 h;have:=(cl k y aL).1;rw[←av.e,n9.2]at this;cases this
       ·exact ab.2 h
  ·cases ax
theorem W7{P:cD}{bB:List (Nat×dA)}(aO:fL P bB=true){C:e9}{q:Bool}{n0:Nat}{ops:Array Oper}{g:c4}{o:Oper}{j:Nat}(af:ops[j]? =some o)(ax:Bk C.N bB ops.toList g o=true){A:dg}{x:kA}(ae:kB P q n0 g A x){a:Act}{w:World}(aK:wF C A a w)
  {K:Act→World→Prop} {Q:Exit→Act→World→Prop} (c1:∀bn w',wF C (A.do x) bn w'→K bn w'):wpOp P ops Q j K a w:=by
 unfold wpOp;rw[af];simp only;simp only[Bk,cC]at ax;obtain⟨qq,rf⟩:=ax;unfold kB at ae;cases BC:g.g with
 |none=>
  cases dU:o.guard with
  |some x=>simp[dU,BC]at qq
  |none=>
   have hw:oG o (yielded ops a.tmps)=true:=by simp[oG,dU]
   rw[if_pos hw];simp only[BC]at ae;exact .inl (MP aO rf ae aK c1)
 |some yf=>
  obtain⟨s,want⟩:=yf;cases dU:o.guard with
  |none=>simp[dU,BC]at qq
  |some amf=>
   obtain⟨aon,b1⟩:=amf;simp only[dU,BC,cC,dO,fk]at qq;obtain⟨⟨⟨⟨rfl,U⟩,ao⟩,ba⟩,b2⟩:=qq;obtain⟨st,ν,av,gE,dD⟩:=id aK;obtain⟨kv,oE⟩:=WW dD U ao;simp only[BC]at ae;have R4:∀(h:x=k2 g.i.dst),K (a.put o.dst undef) w:=by
    rintro rfl;rw[ba];refine c1 _ _ ⟨_,ν,?_,fun k ab=>?_,dD.put b2 (p:= .tuple []) (by simp[a8,cP,undef])⟩
    ·refine⟨fun i=>?_,fun k=>?_,fun k=>?_⟩
     ·simp only[dg.do,k2];cases g.i.dst with
      |none=>simpa[eH]using av.t i
      |some d=>simp only[eH,oX,dG,av.t]
     ·simpa[dg.do,ih,look,k2]using av.b k
     ·simpa[dg.do,ih,look,k2]using av.e k
    ·exact gE k ab.1
   split at ae
   ·rename_i b ad;have aL:=kv b (by rw[av.t];exact ad);rcases ae with⟨rfl,ae⟩|⟨rfl,ae⟩
    ·have hw:oG o (yielded ops a.tmps)=true:=by simp[oG,dU,aL]
     rw[if_pos hw];exact .inl (MP aO rf ae aK c1)
    ·have hw:¬(oG o (yielded ops a.tmps)=true):=by simp[oG,dU,aL]
     rw[if_neg hw];exact R4 ae
   ·rename_i ad;have aL:=oE (by rw[av.t];exact ad);have hw:¬(oG o (yielded ops a.tmps)=true):=by simp[oG,dU,aL]
    rw[if_neg hw];exact R4 ae
   ·exact ae.elim
def u5(P:cD)(q:Bool)(n0:Nat)(K:dg→Prop):List (Nat×c4)→dg→Prop
 |[],A=>K A
 |(_,g)::r,A=> ∃x,kB P q n0 g A x∧u5 P q n0 K r (A.do x)
theorem Np{P:cD}{q:Bool}{n0:Nat}{K:dg→Prop}{i:Nat}{g:c4}:∀(nR oJ:List (Nat×c4)) (A:dg),(∀x∈nR,yT x.2 g=true)→u5 P q n0 K (nR++(i,g)::oJ) A→∃x,kB P q n0 g A x∧u5 P q n0 K (nR++oJ) (A.do x)
 |[],oJ,A,_,h=>h
 |(j,QX)::nR,oJ,A,au,h=>by simp only[bV,u5]at h;obtain⟨y,aL,h⟩:=h;obtain⟨x,ae,h⟩:=Np nR oJ (A.do y) (fun z bp=>au z (pg _ bp)) h;obtain⟨s1,s2,s3⟩:=swap (au _ (List.mem_cons_self ..)) aL ae;refine⟨x,s1,y,s2,?_⟩;rw[←dg.do_comm A s3];exact h
def rem(hx:Array Bool):Nat→List c4→List (Nat×c4)
 |_,[]=>[]
 |k,g::r=>if hx.getD k false then rem hx (k+1) r else(k,g)::rem hx (k+1) r
theorem Vh{l aZ:Array Bool}:∀(gs:List c4) (k:Nat),(∀j,k≤j→l.getD j false=aZ.getD j false)→rem l k gs=rem aZ k gs
 |[],_,_=>rfl
 |g::r,k,h=>by simp only[rem,h k (eR _),Vh r (k+1) fun j af=>h j (by omega)]
theorem Et{l:Array Bool}{i j:Nat}(h:i<l.size):(l.setIfInBounds i true).getD j false=if i=j then true else l.getD j false:=by
 simp only[Array.getD_eq_getD_getElem?];by_cases e:i=j
 ·subst e;simp[h]
 ·simp[e]
theorem Lx{l:Array Bool}{i:Nat}(hi:i<l.size)(aA:l.getD i false=false):∀(gs:List c4) (k:Nat),k≤i→i<k+gs.length→∃nR oJ g,gs[i-k]? =some g∧rem l k gs=nR++(i,g)::oJ∧rem (l.setIfInBounds i true) k gs=nR++oJ∧
  ∀x∈nR,gs[x.1-k]? =some x.2∧k≤x.1∧x.1<i∧l.getD x.1 false=false
 |[],k,J,U=>by simp at U;omega
 |g::r,k,J,U=>by
  by_cases e:k=i
  ·subst e;refine⟨[],rem l (k+1) r,g,by simp,by simp[rem,aA],?_,fun x ae=>by simp at ae⟩;simp only[rem,Et hi,if_true,bY];exact Vh r (k+1) fun j af=>by rw[Et hi,if_neg (by omega)]
  ·obtain⟨nR,oJ,fa,ak,aC,bk,dc⟩:=Lx hi aA r (k+1) (by omega) (by simp at U;omega);have vl:i-k=(i-(k+1))+1:=by omega
   have gW:(l.setIfInBounds i true).getD k false=l.getD k false:=by rw[Et hi,if_neg (by omega)]
   by_cases ab:l.getD k false=true
   ·refine⟨nR,oJ,fa,by rw[vl];simpa using ak,by simp only[rem,ab,if_true,aC],by simp only[rem,gW,ab,if_true,bk],fun x ae=>?_⟩;obtain⟨f1,f2,f3,f4⟩:=dc x ae;refine⟨?_,by omega,f3,f4⟩;have:x.1-k=(x.1-(k+1))+1:=by omega
    rw[this];simpa using f1
   ·have ab:l.getD k false=false:=by simpa using ab
    refine⟨(k,g)::nR,oJ,fa,by rw[vl];simpa using ak,by simp[rem,ab,aC],by simp[rem,gW,ab,bk],fun x ae=>?_⟩;rcases fY.1 ae with rfl|ae
    ·exact⟨by simp,eR _,by simp;omega,ab⟩
    ·obtain⟨f1,f2,f3,f4⟩:=dc x ae;refine⟨?_,by omega,f3,f4⟩;have:x.1-k=(x.1-(k+1))+1:=by omega
     rw[this];simpa using f1
def uu(acc:List Nat):List Edge→Nat
 |[]=>0
 |e::r=>if Region.binds .any e then(2 ^ e.on)|||(acc.getD e.on 0)|||uu acc r else uu acc r
def rE(acc:List Nat):List Oper→List Nat
 |[]=>acc
 |o::os=>rE (acc++[uu acc o.after.toList]) os
def C0(m:Nat)(h:c4):Nat→List c4→Bool
 |_,[]=>true
 |i,g::r=>(m.testBit i||yT g h)&&C0 m h (i+1) r
def CK:List c4→List c4→List Nat→Bool
 |_,[],_=>true
 |pre,h::r,m::ms=>C0 m h 0 pre&&CK (pre++[h]) r ms
 |_,_,[]=>false
def A5:Nat→List Oper→Bool
 |_,[]=>true
 |k,o::os=>o.after.toList.all (fun e=> !Region.binds .any e||decide (e.on<k))&&A5 (k+1) os
def AT(gs:List c4)(ops:List Oper):Bool:=A5 0 ops&&CK [] gs (rE [] ops)
theorem Ki{acc:List Nat}{j:Nat}:∀{es:List Edge},(uu acc es).testBit j=true→∃e∈es,Region.binds .any e=true∧(j=e.on∨(acc.getD e.on 0).testBit j=true)
 |[],h=>by simp[uu]at h
 |e::r,h=>by
  simp only[uu]at h;split at h
  ·rename_i ad;simp only[Nat.testBit_or,mA]at h;rcases h with(h|h)|h
   ·refine⟨e,by simp,ad,.inl ?_⟩;rw[Nat.testBit_two_pow]at h;have ca:e.on=j:=by simpa using h
    exact ca.symm
   ·exact⟨e,by simp,ad,.inr h⟩
   ·obtain⟨fG,J,U⟩:=Ki h;exact⟨fG,by simp[J],U⟩
  ·obtain⟨fG,J,U⟩:=Ki h;exact⟨fG,by simp[J],U⟩
theorem Kj:∀(os:List Oper) (acc:List Nat) (k:Nat),k<acc.length→(rE acc os)[k]? =acc[k]?
 |[],acc,k,_=>rfl
 |o::os,acc,k,h=>by simp only[rE];rw[Kj os _ k (by simp;omega),List.getElem?_append_left h]
theorem Tr:∀(os:List Oper) (acc:List Nat) (k:Nat) (o:Oper),os[k]? =some o→∃tw,(rE acc os)[acc.length+k]? =some (uu tw o.after.toList)∧tw.length=acc.length+k∧∀i,i<tw.length→tw[i]? =(rE acc os)[i]?
 |[],acc,k,o,h=>by simp at h
 |o'::os,acc,0,o,h=>by
  simp only[List.getElem?_cons_zero,dG]at h;subst h;refine⟨acc,?_,by simp,fun i hi=>?_⟩
  ·simp only[rE,Nat.add_zero];rw[Kj os _ _ (by simp)];simp
  ·simp only[rE];rw[Kj os _ i (by simp;omega),List.getElem?_append_left hi]
 |o'::os,acc,k+1,o,h=>by simp only[List.getElem?_cons_succ]at h;obtain⟨tw,J,U,ao⟩:=Tr os (acc++[uu acc o'.after.toList]) k o h;refine⟨tw,?_,by rw[U];simp;omega,fun i hi=>by rw[ao i hi];rfl⟩;simp only[rE];rw[show acc.length+(k+1)=(acc++[uu acc o'.after.toList]).length+k from by simp;omega];exact J
def MM(ops:Array Oper)(hx:Array Bool):Prop:= ∀k o,ops[k]? =some o→hx.getD k false=true→∀e∈o.after.toList,Region.binds .any e=true→hx.getD e.on false=true
theorem afG{ops:Array Oper}{hx:Array Bool}(aP:MM ops hx):∀(k:Nat) (o:Oper),ops[k]? =some o→(∀e∈o.after.toList,Region.binds .any e=true→hx.getD e.on false=true)→∀j,((rE [] ops.toList).getD k 0).testBit j=true→hx.getD j false=true:=by
 intro k;induction k using Nat.strongRecOn with
 |_ k bU=>
  intro o ax av j af;obtain⟨tw,J,U,ao⟩:=Tr ops.toList [] k o (by simpa using ax);simp only[List.length_nil,Nat.zero_add]at J U;rw[List.getD_eq_getElem?_getD,J]at af;obtain⟨e,he,ad,cu⟩:=Ki af;rcases cu with rfl|cu
  ·exact av e he ad
  ·by_cases bD:e.on<tw.length
   ·have hm:tw.getD e.on 0=(rE [] ops.toList).getD e.on 0:=by rw[List.getD_eq_getElem?_getD,ao _ bD,List.getD_eq_getElem?_getD]
    have ab:k<ops.size:=(Array.getElem?_eq_some_iff.1 ax).1;have hK:ops[e.on]? =some ops[e.on]:=Array.getElem?_eq_getElem (by omega);rw[hm]at cu;exact bU e.on (by omega) _ hK (fun fG vj fP=>aP e.on _ hK (av e he ad) fG vj fP) j cu
   ·rw[List.getD_eq_getElem?_getD,p5 (by omega)]at cu;simp at cu
theorem Vy{m:Nat}{h:c4}:∀{gs:List c4} {i0:Nat},C0 m h i0 gs=true→∀i g,gs[i]? =some g→m.testBit (i0+i)=true∨yT g h=true
 |[],i0,_,i,g,a1=>by simp at a1
 |fa::r,i0,aK,0,g,a1=>by simp only[C0,cC,mA]at aK;simp only[List.getElem?_cons_zero,dG]at a1;subst a1;simpa using aK.1
 |fa::r,i0,aK,i+1,g,a1=>by simp only[C0,cC]at aK;have:=Vy aK.2 i g (by simpa using a1);rwa[show i0+1+i=i0+(i+1)from by omega]at this
theorem Uh:∀{gs pre:List c4} {ms:List Nat},CK pre gs ms=true→∀j h,gs[j]? =some h→∀i g,i<pre.length+j→(pre++gs)[i]? =some g→(ms.getD j 0).testBit i=true∨yT g h=true
 |[],pre,ms,_,j,h,af,_,_,_,_=>by simp at af
 |ca::r,pre,[],bI,j,h,af,_,_,_,_=>by simp[CK]at bI
 |ca::r,pre,m::ms,bI,j,h,af,i,g,hi,a1=>by
  simp only[CK,cC]at bI;cases j with
  |zero=>simp only[List.getElem?_cons_zero,dG]at af;subst af;rw[List.getElem?_append_left (by omega)]at a1;simpa using Vy bI.1 i g a1
  |succ j=>have:=Uh bI.2 j h (by simpa using af) i g (by simp;omega) (by simpa using a1);simpa using this
theorem PY:∀{os:List Oper} {k:Nat},A5 k os=true→∀i o,os[i]? =some o→∀e∈o.after.toList,Region.binds .any e=true→e.on<k+i
 |[],k,_,i,o,ax,_,_,_=>by simp at ax
 |o'::os,k,h,0,o,ax,e,he,ad=>by simp only[A5,cC,gh]at h;simp only[List.getElem?_cons_zero,dG]at ax;subst ax;have:=h.1 e he;simpa[ad]using this
 |o'::os,k,h,i+1,o,ax,e,he,ad=>by simp only[A5,cC]at h;have:=PY h.2 i o (by simpa using ax) e he ad;omega
theorem QZ{N:Nat}{bB:List (Nat×dA)}{ops:List Oper}:∀{gs:List c4} {os:List Oper},kg N bB ops gs os=true→∀(i:Nat) (g:c4),gs[i]? =some g→∃o,os[i]? =some o∧Bk N bB ops g o=true
 |[],[],_,i,g,h=>by simp at h
 |[],_::_,h,_,_,_=>by simp[kg]at h
 |_::_,[],h,_,_,_=>by simp[kg]at h
 |fa::gs,o::os,h,0,g,a1=>by simp only[kg,cC]at h;simp only[List.getElem?_cons_zero,dG]at a1;subst a1;exact⟨o,by simp,h.1⟩
 |fa::gs,o::os,h,i+1,g,a1=>by simp only[kg,cC]at h;obtain⟨o',J,U⟩:=QZ h.2 i g (by simpa using a1);exact⟨o',by simpa using J,U⟩
theorem IP{N:Nat}{bB:List (Nat×dA)}{ops:List Oper}:∀{gs:List c4} {os:List Oper},kg N bB ops gs os=true→gs.length=os.length
 |[],[],_=>rfl
 |[],_::_,h=>by simp[kg]at h
 |_::_,[],h=>by simp[kg]at h
 |g::gs,o::os,h=>by simp only[kg,cC]at h;simp[IP h.2]
theorem Vi{l:Array Bool}:∀(gs:List c4) (k:Nat),rem l k gs=[]∨ ∃i g,i<gs.length∧gs[i]? =some g∧l.getD (k+i) false=false∧∀j,j<i→l.getD (k+j) false=true
 |[],_=>.inl rfl
 |g::r,k=>by
  by_cases h:l.getD k false=true
  ·rcases Vi (l:=l) r (k+1)with J|⟨i,fa,J,U,ao,ba⟩
   ·left;simp only[rem,h,if_true,J]
   ·refine .inr ⟨i+1,fa,by simp;omega,by simpa using U,by rw[show k+(i+1)=k+1+i from by omega];exact ao,fun j af=>?_⟩;cases j with
    |zero=>simpa using h
    |succ j=>rw[show k+(j+1)=k+1+j from by omega];exact ba j (by omega)
  ·exact .inr ⟨0,g,by simp,by simp,by simpa using h,fun j af=>by omega⟩
theorem Xw{P:cD}{bB:List (Nat×dA)}(aO:fL P bB=true){C:e9}{q:Bool}{n0:Nat}{ops:Array Oper}{gs:List c4}(kj:kg C.N bB ops.toList gs ops.toList=true)(EB:AT gs ops.toList=true){K:dg→Prop}{Q:Exit→Act→World→Prop}
  (hU:∀A a w,K A→wF C A a w→Q .normal a w):∀(fuel:Nat) (hx:Array Bool) (A:dg) (a:Act) (w:World),hx.size=ops.size→MM ops hx→(rem hx 0 gs).length≤fuel→u5 P q n0 K (rem hx 0 gs) A→wF C A a w→wpAny P .any ops Q fuel hx a w:=by
 simp only[AT,cC]at EB;obtain⟨IZ,ad7⟩:=EB;have hlen:gs.length=ops.size:=by simpa using IP kj
 have Rl:∀(hx:Array Bool) (A:dg) (a:Act) (w:World),hx.size=ops.size→u5 P q n0 K (rem hx 0 gs) A→wF C A a w→Region.ready .any ops hx=[]→Q .normal a w:=by
  intro hx A a w dX su aK EY;rcases Vi (l:=hx) gs 0 with h|⟨i,g,J,U,ao,ba⟩
  ·rw[h]at su;exact hU A a w su aK
  ·exfalso;have hi:i<ops.size:=by omega
   have jw:i∈Region.ready .any ops hx:=by
    unfold Region.ready;simp only[nl,List.mem_range,cC,Bool.not_eq_true'];refine⟨hi,?_,?_⟩
    ·rw[Nat.zero_add]at ao;simp only[Array.getD_eq_getD_getElem?]at ao⊢;rw[Array.getElem?_eq_getElem (by omega)]at ao⊢;simpa using ao
    ·rw[Array.getElem?_eq_getElem hi];simp only[nQ,j9];rw[←Array.all_toList,gh];intro e he;by_cases ad:Region.binds .any e=true
     ·have bD:=PY IZ i ops[i] (by simp[hi]) e he ad;have:=ba e.on (by omega);rw[Nat.zero_add]at this;simp[this]
     ·simp[ad]
   rw[EY]at jw;simp at jw
 intro fuel;induction fuel with
 |zero=>
  intro hx A a w dX aP aJ su aK;have ad1:rem hx 0 gs=[]:=List.eq_nil_of_length_eq_zero (by omega);have EY:Region.ready .any ops hx=[]:=by
   rw[List.eq_nil_iff_forall_not_mem];intro i hi;unfold Region.ready at hi;simp only[nl,List.mem_range,cC,Bool.not_eq_true']at hi;obtain⟨J,U,_⟩:=hi;have aA:hx.getD i false=false:=by simp only[Array.getD_eq_getD_getElem?]at U⊢;rw[Array.getElem?_eq_getElem (by omega)]at U⊢;simpa using U
   obtain⟨nR,oJ,g,_,aC,_⟩:=Lx (by omega) aA gs 0 (by omega) (by omega);rw[ad1]at aC;simp at aC
  exact⟨EY,Rl hx A a w dX su aK EY⟩
 |succ fuel bU=>
  intro hx A a w dX aP aJ su aK;refine⟨Rl hx A a w dX su aK,fun i hi=>?_⟩;unfold Region.ready at hi;simp only[nl,List.mem_range,cC,Bool.not_eq_true']at hi;obtain⟨J,U,ao⟩:=hi;have aA:hx.getD i false=false:=by simp only[Array.getD_eq_getD_getElem?]at U⊢;rw[Array.getElem?_eq_getElem (by omega)]at U⊢;simpa using U
  have ax:ops[i]? =some ops[i]:=Array.getElem?_eq_getElem J;have Ro:∀e∈ops[i].after.toList,Region.binds .any e=true→hx.getD e.on false=true:=by rw[ax]at ao;simp only[nQ,j9]at ao;rw[←Array.all_toList,gh]at ao;intro e he ad;simpa[ad]using ao e he
  obtain⟨nR,oJ,g,ak,aC,bk,dc⟩:=Lx (by omega) aA gs 0 (by omega) (by omega);simp only[Nat.sub_zero]at ak dc;rw[aC]at su;obtain⟨x,ae,adb⟩:=Np nR oJ A (fun y aL=>by
   obtain⟨f1,f2,f3,f4⟩:=dc y aL;rcases Uh ad7 i g ak y.1 y.2 (by simpa using f3) (by simpa using f1)with h|h
   ·have:=afG aP i ops[i] ax Ro y.1 h;rw[f4]at this;cases this
   ·exact h) su
  obtain⟨o',g1,g2⟩:=QZ kj i g ak;have:o'=ops[i]:=by rw[ti,ax]at g1;exact(fj g1).symm
  subst this;refine W7 aO ax g2 ae aK fun bn w' dD=>?_;refine bU (hx.setIfInBounds i true) (A.do x) bn w' (by simpa using dX) ?_ ?_ (by rw[bk];exact adb) dD
  ·intro k o ab av e he ad;rw[Et (by omega)]at av⊢;split
   ·rfl
   ·by_cases vl:i=k
    ·subst vl;rw[ax]at ab;cases ab;exact Ro e he ad
    ·rw[if_neg vl]at av;exact aP k o ab av e he ad
  ·rw[bk];rw[aC]at aJ;simp at aJ⊢;omega
def wZ(n0 d:Nat)(st:bq):Prop:= .loc (n0+d)∉st.o∧look (.loc (n0+d)) st.b=none∧look (.loc (n0+d)) st.e=none
def fM.loadO(q:Bool)(t:List (Nat×ah)):fM→Prop
 | .load _ _ x=>q=true∨xB (cp t x)=true
 | .loadB _ _ _=>True
 | .mgetB _ _ _ _ _=>True
 | .mget _ _ _ _ _=>q=true
 | .ment _=>q=true
 | .mlen _=>q=true
 |_=>True
def lL(q:Bool)(nw:List Nat)(n0:Nat)(st:bq):ei→Prop
 | .v _ i=>i.loadO q st.t
 | .box d none _=>wZ n0 d st
 | .alloc d none _=>wZ n0 d st
 | .box _ (some _) _=>eK
 | .alloc _ (some _) _=>eK
 | .store _ x _=>match cp st.t x with| .ptr _ _=>True|_=>eK
 | .bslm _ _ _ _ _=>eK
 | .mks _ _ _ _ _ _=>eK
 | .appm _ _ _ _ x _=>match cp st.t x with| .row _ _ _=>True|_=>eK
 | .storeE _ _ _=>True
 | .mkmap _ none=>eK
 | .mkmap _ (some m)=>m∈nw∧look (.obj m) st.b=none∧look (.obj m) st.e=none
 | .mput _ _ _ _=>True
 | .range _ _ _=>eK
 | .bsl d _ _ _=>wZ n0 d st
 | .app d _ _ x _=>match cp st.t x with
  | .slice _ .nil _=>wZ n0 d st
  | .slice _ (.own k) _=>(look k st.e).bind (·.xs)=none
  |_=>True
def oQ(n0:Nat):ei→aH
 | .mkmap _ (some m)=>.obj m
 | .v d _| .box d _ _| .alloc d _ _| .bsl d _ _ _| .app d _ _ _ _| .bslm d _ _ _ _| .appm d _ _ _ _ _| .mkmap d _| .range d _ _| .mks d _ _ _ _ _=>.loc (n0+d)
 | .store _ _ _| .mput _ _ _ _| .storeE _ _ _=>.loc n0
def afd(nw:List Nat)(st:bq)(s ai:cK)(rm:aY aH):Prop:=(∀k,(look k ai.b).isSome→(look k s.b).isSome∨rm=some k)∧(∀k,(look k ai.e).isSome→(look k s.e).isSome∨rm=some k)∧(∀k,(look k s.b).isSome→(look k ai.b).isSome)∧(∀k,(look k s.e).isSome→(look k ai.e).isSome)∧
 (∀k,rm=some k→(∃j,j∈nw∧k= .obj j)∧look k st.b=none∧look k st.e=none∧((look k ai.b).isSome∨(look k ai.e).isSome))
def hZ(P:cD)(q:Bool)(nw:List Nat)(n:Nat)(args:List ah)(st:bq)(d:aY Nat)(K:bq→Prop):Prop:=
 (∃cG r,d=some cG∧wZ st.n cG st∧aI (fun _=>eK) args∧G1 P n (st.n+cG) args ⟨[],[]⟩ (fun eC dJ=>eC=r∧dJ=⟨[],[]⟩)∧K {st with t:=put cG r st.t,o:= .loc (st.n+cG)::st.o})∨
 ∃s ai r rm,gC (inObs s) s.b st.b∧oz (inObs s) s.e st.e∧iI s∧iI ai∧afd nw st s ai rm∧aI (inObs s) args∧bN P n args s (fun eC dJ=>eC=r∧dJ=ai)∧(q=true→ai.b=[]∧ai.e=[])∧K {after st s ai d r with o:=st.o}
def kd(P:cD)(q:Bool)(nw:List Nat)(n0:Nat)(st:bq)(K:bq→Prop):ee→Prop
 | .s i=>match eA (oQ n0 i) st.n (oQ n0 i::st.o) st i with
  |some (c,st')=>lL q nw n0 st i∧c∧K st'
  |none=>eK
 | .call d f xs=>match cp st.t f with
  | .func n dj=>hZ P q nw n (cZ (xs.map (cp st.t)++dj)) st d K
  |_=>eK
 | .next _ _=>eK
def hJ(P:cD)(q:Bool)(nw:List Nat)(n0:Nat):List c4→bq→(bq→Prop)→Prop
 |[],st,K=>K st
 |⟨none,i⟩::r,st,K=>kd P q nw n0 st (fun st'=>hJ P q nw n0 r st' K) i
 |⟨some (s,want),i⟩::r,st,K=>match get s st.t with
  | .bool b=>(b=want→kd P q nw n0 {st with t:=put s (.bool want) st.t} (fun st'=>hJ P q nw n0 r st' K) i)∧(b= !want→hJ P q nw n0 r {st with t:=eH i.dst (.tuple []) (put s (.bool !want) st.t)} K)
  | .tuple []=>hJ P q nw n0 r {st with t:=eH i.dst (.tuple []) st.t} K
  |_=>eK
structure r8 (nw:List Nat) (n0 N:Nat) (o8:List aH) (st:bq) (A:dg):Prop where
 like:k7 st A
 n:st.n=n0
 F:∀k,fresh n0 st.o k→(∀j∈nw,k≠ .obj j)→A.F k
 o:∀k∈st.o,k∈o8∨(∃d,d<N∧k= .loc (n0+d))∨ ∃j∈nw,k= .obj j
def AM(nw:List Nat)(A:dg):Prop:= ∀j∈nw,A.b (.obj j)=none→A.e (.obj j)=none→A.F (.obj j)
theorem AM.do{P:cD}{q:Bool}{n0:Nat}{nw:List Nat}{A:dg}(h:AM nw A){g:c4}{x:kA}(ae:kB P q n0 g A x):AM nw (A.do x):=by
 intro j af ad he;refine⟨h j af (HZ ad) (H0 he),fun ql=>?_⟩;rcases(Mc ae).r _ ql with⟨d,_,e⟩|⟨_,_,ag⟩
 ·cases e
 ·rcases ag with ag|ag
  ·obtain⟨y,aL⟩:=fJ.1 ag;simp[dg.do,ih,aL]at ad
  ·obtain⟨y,aL⟩:=fJ.1 ag;simp[dg.do,ih,aL]at he
theorem P6{P:cD}{q:Bool}{nw:List Nat}{n0 N:Nat}{o8:List aH}{i:ee}(aP:∀d,i.dst=some d→d<N){st:bq}{A:dg}(h:r8 nw n0 N o8 st A)(n3:AM nw A){K:bq→Prop}(he:kd P q nw n0 st K i):∃x st',en P q n0 i A x∧K st'∧r8 nw n0 N o8 st' (A.do x):=by
 have av:=h.like;have xe:∀d,wZ n0 d st→(A.F (.loc (n0+d))∧A.b (.loc (n0+d))=none∧A.e (.loc (n0+d))=none):=fun d aJ=>⟨h.F _ ⟨by simp,aJ.1⟩ (fun _ _ e=>by cases e),by rw[←av.b];exact aJ.2.1,by rw[←av.e];exact aJ.2.2⟩;have mL:∀(d:aY Nat) (p:ah) (bw:List (aH×List ah)) (ew:List (aH×fK)) (κ:aH),∀k,fresh n0 (κ::st.o) k→(∀j∈nw,k≠ .obj j)→(A.do ⟨d,p,bw,ew,some κ⟩).F k:=fun d p bw ew κ k ab af=>⟨h.F k (vb k ab).1 af,fun e=>(vb k ab).2 (fj e).symm⟩;have w5:∀(d:aY Nat) (p:ah) (bw:List (aH×List ah)) (ew:List (aH×fK)),∀k,fresh n0 st.o k→(∀j∈nw,k≠ .obj j)→(A.do ⟨d,p,bw,ew,none⟩).F k:=fun d p bw ew k ab af=>⟨h.F k ab af,by simp⟩;have ln:∀d,d<N→∀k∈aH.loc (n0+d)::st.o,k∈o8∨(∃d,d<N∧k= .loc (n0+d))∨ ∃j∈nw,k= .obj j:=fun d aP k ab=>by
  rcases fY.1 ab with rfl|ab
  ·exact .inr (.inl ⟨d,aP,rfl⟩)
  ·exact h.o k ab
 cases i with
 |s i=>
  cases i with
  |v d i=>
   simp only[kd,eA]at he;cases aG:hb st i with
   |none=>simp[aG]at he
   |some HW=>
    obtain⟨c,p⟩:=HW;simp only[aG]at he;obtain⟨J,U,ao⟩:=he;refine⟨⟨some d,p,[],[],none⟩,_,⟨c,p,by rw[←Wj av];exact aG,U,fun nA=>?_,rfl⟩,ao,Ka av d p,h.n,w5 _ _ _ _,h.o⟩;cases i<;>simp only[fM.isLoad]at nA<;>try(cases nA;done)
    case mget=>exact .inr (.inl J)
    case ment=>exact .inr (.inl J)
    case mlen=>exact .inr (.inl J)
    case loadB=>exact .inl rfl
    case mgetB=>exact .inl rfl
    simp only[lL,fM.loadO,iB av]at J;exact .inr (by simpa only[fM.ptrOf]using J)
  |box d key v=>
   cases key with
   |some m=>simp only[kd,eA,lL,false_and]at he
   |none=>simp only[kd,eA,lL,oQ]at he;obtain⟨J,U,ao⟩:=he;rw[iB av]at U;refine⟨_,_,⟨xe d J,U,rfl⟩,ao,?_,h.n,mL _ _ _ _ _,ln d (aP d rfl)⟩;rw[iB av];exact zE av d _ _ _ _ _ _
  |alloc d key z=>
   cases key with
   |some m=>simp only[kd,eA,lL,false_and]at he
   |none=>simp only[kd,eA,lL,oQ]at he;obtain⟨J,U,ao⟩:=he;exact⟨_,_,⟨xe d J,rfl⟩,ao,zE av d _ _ _ _ _ _,h.n,mL _ _ _ _ _,ln d (aP d rfl)⟩
  |store sz u v=>
   simp only[kd,eA]at he;cases hu:cp st.t u with
   |ptr k off=>
    cases ad:look k st.b with
    |none=>simp[hu,ad]at he
    |some cs=>simp only[hu,ad]at he;obtain⟨J,U,ao⟩:=he;rw[iB av]at U hu;refine⟨⟨none,.junk,[(k,nI cs off (cells (du A.t v)))],[],none⟩,_,⟨k,off,cs,hu,by rw[←av.b];exact ad,U,rfl⟩,ao,?_,h.n,w5 _ _ _ _,h.o⟩;rw[iB av];exact Fu av k _ _
   |_=>
    exfalso;simp only[hu]at he;split at he
    ·have:=he.1;simp[lL,hu]at this
    ·exact he
  |bsl d sz el xs=>simp only[kd,eA,lL,oQ]at he;obtain⟨J,U,ao⟩:=he;rw[tH av]at U;refine⟨_,_,⟨xe d J,U,rfl⟩,ao,?_,h.n,mL _ _ _ _ _,ln d (aP d rfl)⟩;rw[tH av];exact vM av d _ _ _ _ _ _
  |app d sz el u v=>
   simp only[kd,eA]at he;cases hu:cp st.t u with
   |slice dF tag xs=>
    cases aG:cp st.t v with
    |slice jb kJ ys=>
     simp only[hu,aG]at he;by_cases e6:dF=sz∧jb=sz
     ·obtain⟨rfl,rfl⟩:=e6;rw[iB av]at hu aG;cases tag with
      |no=>simp at he
      |tr k j=>simp at he
      |lo k=>simp at he
      |nil=>simp only[and_self,if_true,lL,iB av,hu,oQ]at he;obtain⟨J,U,ao⟩:=he;exact⟨_,_,⟨.nil,xs,kJ,ys,hu,aG,.inr ⟨rfl,U,xe d J,rfl⟩⟩,ao,vM av d _ _ _ _ _ _,h.n,mL _ _ _ _ _,ln d (aP d rfl)⟩
      |own k=>
       cases ab:look k st.e with
       |none=>simp[ab]at he
       |some o=>simp only[and_self,if_true,ab]at he;obtain⟨J,U,ao⟩:=he;exact⟨_,_,⟨.own k,xs,kJ,ys,hu,aG,.inl ⟨k,o,rfl,by rw[←av.e];exact ab,⟨by simpa[lL,iB av,hu,ab]using J,U⟩,rfl⟩⟩,ao,vM av d _ _ _ _ _ _,h.n,w5 _ _ _ _,h.o⟩
     ·simp[e6]at he
    |_=>simp[hu,aG]at he
   |_=>simp[hu]at he
  |bslm d key sz el xs=>simp only[kd,eA,lL,false_and]at he
  |mks d key sz el z x=>simp only[kd,eA,lL,false_and]at he;split at he<;>simp at he
  |appm d key sz el u v=>
   simp only[kd,eA]at he;cases hu:cp st.t u with
   |row dF k n=>
    cases aG:cp st.t v with
    |slice jb kJ ys=>
     simp only[hu,aG,se]at he;by_cases e6:dF=sz∧jb=sz
     ·obtain⟨rfl,rfl⟩:=e6;rw[iB av]at hu aG;simp only[and_self,if_true]at he;cases ab:look k st.e with
      |none=>simp[ab]at he
      |some o=>
       obtain⟨n',fN,wk,KV⟩:=o;cases KV with
       |none=>simp[ab]at he
       |some xs=>
        simp only[ab]at he;by_cases w9:n'=n∧fN=el∧wk=jb
        ·obtain⟨rfl,rfl,rfl⟩:=w9;simp only[and_self,if_true]at he;obtain⟨J,U,ao⟩:=he;exact⟨_,_,⟨k,n',xs,kJ,ys,hu,aG,by rw[←av.e];exact ab,U,rfl⟩,ao,vM av d _ _ _ _ _ _,h.n,w5 _ _ _ _,h.o⟩
        ·simp[w9]at he
     ·simp[e6]at he
    |_=>simp[hu,aG,se]at he
   |slice dF tag xs=>
    exfalso;simp only[hu]at he;split at he
    ·have:=he.1;simp[lL,hu]at this
    ·exact he
   |_=>simp[hu,se]at he
  |storeE sz u v=>
   simp only[kd,eA]at he;cases hu:cp st.t u with
   |rptr dF k n i f=>
    cases ab:look k st.e with
    |none=>simp[hu,qG,ab]at he
    |some o=>
     obtain⟨n',el,wk,KV⟩:=o;cases KV with
     |none=>simp[hu,qG,ab]at he
     |some xs=>
      simp only[hu,qG,ab]at he;by_cases w9:n'=n∧wk=dF
      ·obtain⟨rfl,rfl⟩:=w9;simp only[and_self,if_true]at he;cases br:xs[i]? with
       |none=>simp[br]at he
       |some q=>simp only[br]at he;obtain⟨J,U,ao⟩:=he;rw[iB av]at U hu;refine⟨⟨none,.junk,[],[(k,⟨n',el,wk,some (xs.set i (mw q f (cells (du A.t v))))⟩)],none⟩,_,⟨k,n',i,f,el,wk,xs,q,hu,by rw[←av.e];exact ab,br,U,rfl⟩,ao,?_,h.n,w5 _ _ _ _,h.o⟩;rw[iB av];exact Tj av k _ _
      ·simp[w9]at he
   |_=>simp[hu,qG]at he
  |mkmap d key=>
   cases key with
   |none=>simp only[kd,eA,lL,false_and]at he
   |some m=>
    simp only[kd,eA,lL,oQ]at he;obtain⟨⟨bA,J,U⟩,_,ao⟩:=he;rw[av.b]at J;rw[av.e]at U;refine⟨_,_,⟨⟨n3 m bA J U,J,U⟩,rfl⟩,ao,zE av d _ _ _ _ _ _,h.n,mL _ _ _ _ _,fun k ab=>?_⟩;rcases fY.1 ab with rfl|ab
    ·exact .inr (.inr ⟨m,bA,rfl⟩)
    ·exact h.o k ab
  |mput cd u k v=>
   simp only[kd,eA,lL]at he;cases hu:cp st.t u with
   |gmap m=>
    cases ad:look m st.b with
    |none=>simp[hu,ad]at he
    |some cs=>
     cases hm:oq cd (cp st.t k) (cp st.t v) cs with
     |none=>simp[hu,ad,hm]at he
     |some cs'=>simp only[hu,ad,hm]at he;rw[iB av]at hu;rw[iB av,iB av]at hm;exact⟨⟨none,.junk,[(m,cs')],[],none⟩,_,⟨m,cs,cs',hu,by rw[←av.b];exact ad,hm,rfl⟩,he.2.2,Fu av m _ _,h.n,w5 _ _ _ _,h.o⟩
   |_=>simp[hu]at he
  |range d key x=>simp only[kd,lL,false_and]at he;split at he<;>exact he.elim
 |next d x=>simp only[kd]at he
 |call d f xs=>
  simp only[kd]at he;cases aJ:cp st.t f with
  |func n dj=>
   simp only[aJ]at he;rw[iB av]at aJ;rcases he with⟨cG,r,rfl,bH,cl,c9,ig⟩|⟨s,ai,r,rm,bH,cl,c9,ig,lJ,oO,AZ,XW,XX⟩
   ·rw[tH av]at cl c9;have aA:=h.n;subst aA;refine⟨⟨some cG,r,[],[],some (.loc (st.n+cG))⟩,_,⟨n,dj,aJ,.inr ⟨cG,r,rfl,xe cG bH,cl,c9,rfl⟩⟩,ig,Tk av cG r _ _,rfl,mL _ _ _ _ _,ln cG (aP cG rfl)⟩
   rw[tH av]at oO AZ;obtain⟨aU,bG,b9,eV,dd⟩:=lJ;refine⟨⟨d,r,ai.b,ai.e,rm⟩,_,⟨n,dj,aJ,.inl ⟨⟨s,ai,r,rm,fun k cs ab=>⟨by rw[←av.b];exact(bH k cs ab).1,(bH k cs ab).2.2⟩,fun k o ab=>⟨by rw[←av.e];exact(cl k o ab).1,(cl k o ab).2.2⟩,c9,ig,⟨aU,bG,b9,eV,fun k ab=>?_⟩,oO,AZ,rfl⟩,XW⟩⟩,XX,⟨fun i=>?_,fun k=>?_,fun k=>?_⟩,h.n,fun k ab af=>⟨h.F k ab af,fun ql=>?_⟩,h.o⟩
   ·obtain⟨⟨j,af,rfl⟩,aC,bk,dc⟩:=dd k ab;rw[av.b]at aC;rw[av.e]at bk;exact⟨⟨j,rfl⟩,n3 j af aC bk,aC,bk,dc⟩
   ·simp only[after,dg.do];cases d with
    |none=>simpa[eH]using av.t i
    |some d=>simp only[eH,oX,dG,av.t]
   ·simp only[after,dg.do,ih,xK,ur];by_cases ag:(look k s.b).isSome
    ·have:=b9 k ag;obtain⟨y,aL⟩:=fJ.1 this;simp[ag,aL]
    ·cases aA:look k ai.b with
     |none=>simp only[ag,av.b];cases A.b k<;>simp
     |some y=>
      rcases aU k (by simp[aA])with h|h
      ·exact absurd h ag
      ·have:=dd k h;simp[ag,this]
   ·simp only[after,dg.do,ih,xK,ur];by_cases ag:(look k s.e).isSome
    ·have:=eV k ag;obtain⟨y,aL⟩:=fJ.1 this;simp[ag,aL]
    ·cases aA:look k ai.e with
     |none=>simp only[ag,av.e];cases A.e k<;>simp
     |some y=>
      rcases bG k (by simp[aA])with h|h
      ·exact absurd h ag
      ·have:=dd k h;simp[ag,this]
   ·obtain⟨⟨j,jh,rfl⟩,_⟩:=dd k ql;exact af j jh rfl
  |_=>simp[aJ]at he
def yL(N:Nat):List c4→Bool
 |[]=>true
 |g::r=>jf N g.i.dst&&yL N r
def yp:Nat→List c4→List (Nat×c4)
 |_,[]=>[]
 |k,g::r=>(k,g)::yp (k+1) r
theorem M3{nw:List Nat}{n0 N:Nat}{o8:List aH}{st:bq}{A:dg}(h:r8 nw n0 N o8 st A){s:Nat}{p:ah}(ag:get s st.t=p):r8 nw n0 N o8 {st with t:=put s p st.t} A:=by
 refine⟨⟨fun i=>?_,h.like.b,h.like.e⟩,h.n,h.F,h.o⟩;simp only[oX];split
 ·rename_i e;subst e;rw[←ag];exact h.like.t _
 ·exact h.like.t i
theorem M4{nw:List Nat}{n0 N:Nat}{o8:List aH}{st:bq}{A:dg}(h:r8 nw n0 N o8 st A)(d:aY Nat):r8 nw n0 N o8 {st with t:=eH d (.tuple []) st.t} (A.do (k2 d)):=by
 refine⟨⟨fun i=>?_,fun k=>?_,fun k=>?_⟩,h.n,fun k ab af=>⟨h.F k ab af,by simp[k2]⟩,h.o⟩
 ·simp only[dg.do,k2];cases d with
  |none=>simpa[eH]using h.like.t i
  |some d=>simp only[eH,oX,dG,h.like.t]
 ·simpa[dg.do,ih,look,k2]using h.like.b k
 ·simpa[dg.do,ih,look,k2]using h.like.e k
theorem A8{P:cD}{q:Bool}{nw:List Nat}{n0 N:Nat}{o8:List aH}{K:bq→Prop}:∀(gs:List c4) (k:Nat),yL N gs=true→∀(st:bq) (A:dg),r8 nw n0 N o8 st A→AM nw A→hJ P q nw n0 gs st K→u5 P q n0 (fun fZ=> ∃st',K st'∧r8 nw n0 N o8 st' fZ) (yp k gs) A
 |[],k,_,st,A,h,_,he=>⟨st,he,h⟩
 |⟨mK,i⟩::r,k,aP,st,A,h,n3,he=>by
  simp only[yL,cC]at aP;have sv:∀d,i.dst=some d→d<N:=fun d e=>by have:=aP.1;rw[e]at this;simpa[jf]using this
  simp only[yp,u5];cases mK with
  |none=>simp only[hJ]at he;obtain⟨x,st',J,U,ao⟩:=P6 sv h n3 he;have a1:kB P q n0 ⟨none,i⟩ A x:=J;exact⟨x,a1,A8 r (k+1) aP.2 st' _ ao (n3.do a1) U⟩
  |some yf=>
   obtain⟨s,want⟩:=yf;simp only[hJ]at he;split at he
   ·rename_i b ad;by_cases e:b=want
    ·subst e;obtain⟨x,st',J,U,ao⟩:=P6 sv (M3 h ad) n3 (he.1 rfl);have a1:kB P q n0 ⟨some (s,b),i⟩ A x:=by unfold kB;simp only[←h.like.t,ad];exact .inl ⟨trivial,J⟩
     exact⟨x,a1,A8 r (k+1) aP.2 st' _ ao (n3.do a1) U⟩
    ·have fP:b= !want:=by cases b<;>cases want<;>simp at e⊢
     subst fP;have a1:kB P q n0 ⟨some (s,want),i⟩ A (k2 i.dst):=by unfold kB;simp only[←h.like.t,ad];exact .inr ⟨trivial,trivial⟩
     exact⟨k2 i.dst,a1,A8 r (k+1) aP.2 _ _ (M4 (M3 h ad) i.dst) (n3.do a1) (he.2 rfl)⟩
   ·rename_i ad;have a1:kB P q n0 ⟨some (s,want),i⟩ A (k2 i.dst):=by unfold kB;simp only[←h.like.t,ad]
    exact⟨k2 i.dst,a1,A8 r (k+1) aP.2 _ _ (M4 h i.dst) (n3.do a1) he⟩
   ·exact he.elim
theorem Lw:∀(gs:List c4) (l:Array Bool) (k:Nat),(∀j,l.getD j false=false)→rem l k gs=yp k gs
 |[],_,_,_=>rfl
 |g::r,l,k,h=>by simp only[rem,h k,yp,Lw r l (k+1) h];simp
def tk(n:Nat)(o:List aH)(K:bq→Prop)(st:bq):Prop:=K {st with n:=n,o:=o}
theorem Good.like{pr:Nat→Prop}{w:World}{ν:bd}{b b1:List (aH×List ah)}{e fG:List (aH×fK)}(h:Good pr w ν b e)(ad:∀k,look k b1=look k b)(he:∀k,look k fG=look k e):Good pr w ν b1 fG:=
 ⟨h.alt,fun k cs ab=>h.box k cs (by rw[←ad];exact ab),fun k bK bl J U=>h.inj k bK bl (by rw[←ad];exact J) (by rw[←ad];exact U),fun g o a1=>h.own g o (by rw[←he];exact a1),
  fun g fa n n' v v' bl J U=>h.oinj g fa n n' v v' bl (by rw[←he];exact J) (by rw[←he];exact U),fun g k n v bl J U=>h.obx g k n v bl (by rw[←he];exact J) (by rw[←ad];exact U),h.one,
  fun bl aO=>h.otr bl (aO.imp (fun⟨k,bC,a2⟩=>⟨k,by rw[←ad];exact bC,a2⟩) (fun⟨g,n,v,bC,a2⟩=>⟨g,n,v,by rw[←he];exact bC,a2⟩))⟩
theorem P8{P:cD}(hm:P.follows .mixedOrders=true){bB:List (Nat×dA)}(aO:fL P bB=true){C:e9}{q:Bool}{nw:List Nat}{id:Nat}{ops:Array Oper}{gs:List c4}(kj:kg C.N bB ops.toList gs ops.toList=true)(EB:AT gs ops.toList=true)(iC:yL C.N gs=true)
  {K:bq→Prop} {Q:Exit→Act→World→Prop} (hU:∀st' bn w' bo,K st'→cS C st' bn w' bo→Q .normal bn w') {st:bq} {a:Act} {w:World} {ν:bd} (ad4:∀j∈nw,.obj j∉st.o) (he:hJ P q nw st.n gs st (tk (st.n+C.N) (nw.map aH.obj++st.o) K)) (aK:cS C st a w ν):(Code.region id ops true).wp P Q a w:=by
 refine wp_region_any hm ?_;have dD:cS C st a {w with drawn:=w.drawn+1} ν:=aK.drawn _;let A:dg:=⟨fun i=>get i st.t,fun k=>look k st.b,fun k=>look k st.e,fresh st.n st.o⟩
 have q9:r8 nw st.n C.N st.o st A:=⟨⟨fun _=>rfl,fun _=>rfl,fun _=>rfl⟩,rfl,fun k ab _=>ab,fun k ab=>.inl ab⟩;have su:=A8 gs 0 iC st A q9 (fun j af _ _=>⟨trivial,ad4 j af⟩) he;have n9:∀j,(Array.replicate ops.size false).getD j false=false:=fun j=>by simp[Array.getD_eq_getD_getElem?,Array.getElem?_replicate];split<;>rfl
 refine Xw aO kj EB (q:=q) (n0:=st.n) (K:=fun fZ=> ∃st',tk (st.n+C.N) (nw.map aH.obj++st.o) K st'∧r8 nw st.n C.N st.o st' fZ) ?_ ops.size _ A a _ (by simp) ?_ ?_ (by rw[Lw gs _ 0 n9];exact su) ⟨st,ν,q9.like,fun k ab=>ab,dD⟩
 ·rintro fZ bn w' ⟨st',ab,bt⟩ ⟨ard,bo,nz,Bp,me⟩;refine hU _ bn w' bo ab ⟨me.good.like (fun k=>by rw[nz.b,←bt.like.b]) (fun k=>by rw[nz.e,←bt.like.e]),me.fr,me.defers,me.size,fun i=>?_,fun k zd=>?_⟩
  ·have:=me.slot i;rw[nz.t,←bt.like.t]at this;exact this
  ·refine me.new k (Bp k (bt.F k ?_ fun j af e=>zd.2 (by subst e;exact List.mem_append_left _ (List.mem_map_of_mem af))));simp only at zd;refine⟨(IA (Nat.le_add_right st.n C.N) (fun _ h=>h) zd).1,fun jw=>?_⟩;rcases bt.o k jw with h|⟨d,aP,rfl⟩|⟨j,af,rfl⟩;rotate_left 2
   ·exact zd.2 (List.mem_append_left _ (List.mem_map_of_mem af))
   ·exact zd.2 (List.mem_append_right _ h)
   ·have:=zd.1;simp at this;omega
 ·intro k o ab av;rw[n9]at av;cases av
 ·rw[Lw gs _ 0 n9];have:∀(gs:List c4) k,(yp k gs).length=gs.length:=by
   intro gs;induction gs with
   |nil=>intro k;rfl
   |cons g r bU=>intro k;simp[yp,bU]
  rw[this];have:=IP kj;simp at this;omega
def eo:List ah→Prop
 |[]=>True
 |p::cv=>(match p with| .slice _ _ xs=>xs.length≤lim| .str s=>s.length≤lim|_=>True)∧eo cv
def dZ:ah→Prop
 | .slice _ _ xs=>xs.length≤lim
 | .str s=>s.length≤lim
 | .agg cs=>eo cs
 |_=>True
def ez:List ah→Prop
 |[]=>True
 |p::r=>dZ p∧ez r
theorem Lz{w:World}{ν:bd}:∀{cs:List ah} {us:List Value},c5 w ν cs us→eo cs
 |[],_,_=>trivial
 |c::cs,us,h=>by
  simp only[c5]at h;obtain⟨u,ck,_,J,U⟩:=h;refine⟨?_,Lz U⟩;cases c<;>simp only<;>have ao:=J.1<;>simp only[a8]at ao
  ·exact ao.2
  ·obtain⟨⟨a,cap,_,_,ba,_⟩,_⟩:=ao;exact ba.2
theorem Vj{w:World}{ν:bd}{cs:List ah}{us:List Value}(h:iZ w ν cs us):hP cs=true→eo cs:=fun bI=>by rw[uA bI]at h;exact Lz h
theorem Vv{w:World}{ν:bd}{p:ah}{v:Value}(h:a8 w ν p v):dZ p:=by
 cases p<;>simp only[dZ]<;>simp only[a8]at h
 ·exact h.2
 ·obtain⟨⟨a,cap,_,_,ba,_⟩,_⟩:=h;exact ba.2
 ·obtain⟨us,_,U⟩:=h;exact Lz U
theorem Vt{w:World}{ν:bd}:∀{cs:List ah} {us:List Value},cP w ν cs us→ez cs
 |[],_,_=>trivial
 |c::cs,us,h=>by simp only[cP]at h;obtain⟨u,ck,_,J,U⟩:=h;exact⟨Vv J,Vt U⟩
inductive C where
 |skip
 |region (gs:List c4)
 |drawn (q:Bool) (N:Nat) (gs:List c4)
 |drawnW (nw:List Nat) (N:Nat) (gs:List c4)
 |seq (a b:C)
 |cond (x:dn) (t e:C)
 |block (id:Nat) (c:C)
 |loop (c:C)
 |exit (id:Nat)
 |ret
 |pub (s:Nat) (c:C)
 |pubB (s:Nat) (c:C)
 |fg (o5:Bool) (s:Nat) (c:C)
 |fz (agg:Bool) (s:Nat) (c:C)
 |no
def CN(st:bq):ah→aY (ah×List (aH×fK))
 | .row sz k n=>match look k st.e with
  |some ⟨n',el,dF,some xs⟩=>if n'=n∧dF=sz then some (.slice sz (.own k) xs,cA k ⟨n,el,sz,none⟩ st.e)else none
  |_=>none
 |_=>none
def vZ(st:bq)(s:Nat):aY bq:=
 match CN st (get s st.t)with
 |some (p,e)=>some {st with t:=put s p st.t,e:=e}
 |none=>none
def vY(st:bq)(s:Nat):aY bq:=
 match get (s%1000) st.t with
 | .ptr k off=>match look k st.b with
  |some cs=>match cs[off+s/1000]? with
   |some p=>match CN st p with
    |some (zW,e)=>if hP cs then some {st with b:=cA k (cs.set (off+s/1000) zW) st.b,e:=e}else none
    |none=>none
   |none=>none
  |none=>none
 |_=>none
theorem Lv{C:e9}{st:bq}{a:Act}{w:World}{ν:bd}(h:cS C st a w ν){s:Nat}{p:ah}(ag:a8 w ν p (a.tmps.getD s undef)):cS C {st with t:=put s p st.t} a w ν:=by
 refine⟨h.good,h.fr,h.defers,h.size,fun i=>?_,h.new⟩;have:=h.slot i;simp only[oX];split
 ·rename_i e;subst e;exact ag
 ·exact this
theorem Un{C:e9}{st:bq}{a:Act}{w:World}{ν:bd}(h:cS C st a w ν){p zW:ah}{e:List (aH×fK)}{v:Value}(bI:a8 w ν p v)(he:CN st p=some (zW,e)):
  ∃bo,cS C {st with e:=e} a w bo∧a8 w bo zW v∧k8 w ν w bo:=by
 unfold CN at he;split at he
 ·rename_i sz k n;split at he
  ·rename_i n' el dF xs ab;split at he
   ·rename_i au;obtain⟨rfl,rfl⟩:=au;cases he;simp only[a8]at bI;obtain⟨_,av,n0,u,J,U,ao⟩:=bI;obtain⟨v0,fu,a6,bE,bX,cX⟩:=h.good.own k _ ab;rw[J]at a6;simp only[dG,jm]at a6;obtain⟨rfl,rfl⟩:=a6;have aG:v=u:=ao rfl;subst aG;obtain⟨c8,_,_⟩:=cX xs rfl;simp only at c8;obtain⟨g1,g2⟩:=h.publish ab rfl J (by rw[c8];exact av);refine⟨_,g1,g2,⟨fun b o bg=>⟨.inl bg,rfl⟩,fun j b _ af=>af,fun g n u _ iD=>⟨n,u,?_,.inl ⟨rfl,rfl⟩⟩,fun _ _ _=>rfl,fun _ _ _ _ h=>h⟩⟩;simp only[bd.withRowOf];split
    ·rename_i e;subst e;rw[J]at iD;exact iD
    ·exact iD
   ·cases he
  ·cases he
 ·cases he
def yR(o5:Bool):ah→ah
 | .slice sz tag xs=>.slice sz (if o5 then tag else .no) (cZ xs)
 |p=>dq p
theorem abN{w:World}{ν:bd}{o5:Bool}{p:ah}{v:Value}(h:a8 w ν p v):a8 w ν (yR o5 p) v:=by
 have J:=x6 p v h;cases p with
 |slice sz tag xs=>
  simp only[yR];cases o5 with
  |false=>simpa only[gS,if_false,dq]using J
  |true=>
   simp only[if_true];simp only[a8,dq]at h J⊢;refine⟨J.1,fun e=>h.2.1 e,fun g e=>?_,fun k j e=>?_,fun k e=>?_⟩
   ·obtain⟨n,u,ak,aC,bk⟩:=h.2.2.1 g e;exact⟨n,u,ak,by rw[uQ];exact aC,by rw[uQ];exact bk⟩
   ·exact QG _ _ (h.2.2.2.1 k j e)
   ·exact QG _ _ (h.2.2.2.2 k e)
 |_=>exact J
theorem aiu{C:e9}{st st':bq}{a:Act}{w:World}{ν:bd}(h:cS C st a w ν){s:Nat}(he:vZ st s=some st'):∃bo,cS C st' a w bo:=by
 unfold vZ at he;split at he
 ·rename_i p e bI;cases he;obtain⟨bo,J,U,_⟩:=Un h (h.slot s) bI;exact⟨_,Lv J U⟩
 ·cases he
theorem Vq{w:World}{ν:bd}:∀{cs:List ah} {us:List Value} {i:Nat} {p q:ah} {v:Value},c5 w ν cs us→cs[i]? =some p→us[i]? =some v→a8 w ν q v→c5 w ν (cs.set i q) us
 |[],_,_,_,_,_,_,h,_,_=>by simp at h
 |c::cs,us,0,p,q,v,h,_,aG,br=>by simp only[c5]at h;obtain⟨u,ck,rfl,J,U⟩:=h;simp only[List.getElem?_cons_zero,dG]at aG;subst aG;simp only[List.set_cons_zero,c5];exact⟨_,_,rfl,⟨br,J.2⟩,U⟩
 |c::cs,us,i+1,p,q,v,h,bI,aG,br=>by simp only[c5]at h;obtain⟨u,ck,rfl,J,U⟩:=h;simp only[List.set_cons_succ,c5];exact⟨_,_,rfl,J,Vq U (by simpa using bI) (by simpa using aG) br⟩
theorem ait{C:e9}{st st':bq}{a:Act}{w:World}{ν:bd}(h:cS C st a w ν){s:Nat}(he:vY st s=some st'):∃bo,cS C st' a w bo:=by
 unfold vY at he;split at he
 ·rename_i k agl ab;generalize agl+s/1000=off at he;split at he
  ·rename_i cs dm;split at he
   ·rename_i p bI;split at he
    ·rename_i zW e EV;split at he
     ·rename_i sE;cases he;obtain⟨bl,us,el,g1,g2,g3,g4,g5⟩:=h.good.box k cs dm;rw[uA sE]at g5;have bD:off<us.toList.length:=by rw[pb g5];exact(fi.1 bI).1
      obtain⟨v,aG⟩:∃v,us.toList[off]? =some v:=⟨_,cf bD⟩;have zl:a8 w ν p v:=by have:=Ah off g5;rw[k6 (fi.1 bI).1,k6 bD]at this;simp only[c5]at this;obtain⟨u,ck,ak,aC,_⟩:=this;rw[(fi.1 bI).2]at aC;rw[(fi.1 aG).2]at ak;cases ak;exact aC.1
      obtain⟨bo,J,U,ao⟩:=Un h zl EV;have vv:c5 w bo (cs.set off zW) us.toList:=Vq (Vp ao g5) bI aG U;have RS:=Aj vv;refine⟨bo,⟨J.good.alt,fun j eE af=>?_,fun j dx b af jh=>J.good.inj j dx b ?_ ?_,J.good.own,J.good.oinj,fun g j n v b a1 af=>J.good.obx g j n v b a1 ?_,J.good.one,fun bl ad=>J.good.otr bl (ad.imp (fun⟨bK,bC,a2⟩=>⟨bK,by rw[iH]at bC;split at bC;(rename_i e;subst e;simp[dm]);exact bC,a2⟩) id)⟩,J.fr,J.defers,J.size,J.slot,J.new⟩
      ·simp only at af;rw[iH]at af;split at af
       ·rename_i e;subst e;cases af;obtain⟨ie,ck,fN,f1,f2,f3,f4,f5⟩:=J.good.box k cs dm;have:ie=bl:=by have:=ao.bx k bl trivial g1;rw[this]at f1;cases f1;rfl
        subst this;rw[uz sE]at g4 f4;rw[g4]at f4;injection f4 with f4;injection f4 with f4 f6 f7;refine⟨ie,us,el,f1,f2,f3,by rw[uz RS];exact g4,by rw[uA RS];exact vv⟩
       ·exact J.good.box j eE af
      ·simp only at af;rw[iH]at af;split at af
       ·rename_i e;subst e;simp[dm]
       ·exact af
      ·simp only at jh;rw[iH]at jh;split at jh
       ·rename_i e;subst e;simp[dm]
       ·exact jh
      ·simp only at af;rw[iH]at af;split at af
       ·rename_i e;subst e;simp[dm]
       ·exact af
     ·cases he
    ·cases he
   ·cases he
  ·cases he
 ·cases he
def si{α:Type}(k:aH)(l:List (aH×α)):List (aH×α):=match l with
 |[]=>[]
 |(i,x)::r=>if i=k then si k r else(i,x)::si k r
theorem Kb{α:Type}(k j:aH):∀l:List (aH×α),look j (si k l)=if j=k then none else look j l
 |[]=>by simp[si,look]
 |(i,x)::r=>by
  simp only[si];by_cases h:i=k
  ·subst h;rw[if_pos rfl,Kb i j r];by_cases U:j=i
   ·simp[U]
   ·have:¬i=j:=fun e=>U e.symm;simp[look,U,this]
  ·rw[if_neg h];simp only[look];by_cases U:i=j
   ·subst U;simp[h]
   ·simp only[U,if_false];exact Kb k j r
def ID(agg:Bool):List ah→aY ah
 |[p]=>if agg then some (.agg [p])else some p
 |cs=>if agg then some (.agg cs)else none
def vc(st:bq)(agg:Bool)(s:Nat):aY bq:=
 match get s st.t with
 | .ptr k 0=>match look k st.b with
  |some cs=>if hP cs then match ID agg cs with
    |some x=>some {st with t:=put s (.eptr x) st.t,b:=si k st.b}
    |none=>none
   else none
  |none=>none
 |_=>none
theorem aii{u:Value}(h:u.oneCell'=true):u.cells.toList=[u]:=by cases u<;>first|rfl|(simp[Value.oneCell']at h)
theorem Ta{w:World}{A:Nat→Nat→Prop}{b:Nat}{us:Array Value}{el:fR}(ad:w.heap[b]? =some (.cells us el))(bg:∀o,o<us.size→A b o):∀(bc:List Value) (off:Nat),us.toList.drop off=bc→lx w A b off bc
 |[],_,_=>trivial
 |v::bc,off,h=>by
  have bD:off<us.toList.length:=by
   rcases Nat.lt_or_ge off us.toList.length with J|J
   ·exact J
   ·rw[List.drop_eq_nil_of_le J]at h;cases h
  have U:=k6 bD;rw[h]at U;injection U with U ao;refine⟨⟨bg off (by simpa using bD),?_⟩,Ta ad bg bc (off+1) ao.symm⟩;have vq:off<us.size:=by simpa using bD
  simp only[World.cell?,ad,l0,gS,if_false];rw[U];simp[vq]
theorem ab2{C:e9}{st st':bq}{a:Act}{w:World}{ν:bd}(h:cS C st a w ν){agg:Bool}{s:Nat}(he:vc st agg s=some st'):∃bo,cS C st' a w bo:=by
 unfold vc at he;split at he
 ·rename_i k ab;split at he
  ·rename_i cs dm;split at he
   ·rename_i sE;split at he
    ·rename_i x ae;cases he;obtain⟨bl,us,el,g1,g2,g3,g4,g5⟩:=h.good.box k cs dm;rw[uA sE]at g5;rw[uz sE]at g4;have bD:bl<w.heap.size:=by
      rcases Nat.lt_or_ge bl w.heap.size with J|J
      ·exact J
      ·rw[Array.getElem?_eq_none J]at g4;cases g4
     let bo:bd:={ν with A:=fun b o=>ν.A b o∨(b=bl∧o<us.size)}
     have ax:k8 w ν w bo:=⟨fun b o bg=>⟨.inl bg,rfl⟩,fun j b _ af=>af,fun g n u _ iD=>⟨n,u,iD,.inl ⟨rfl,rfl⟩⟩,fun _ _ _=>rfl,fun _ _ _ _ h=>h⟩;have hV:∀j eE,look j (si k st.b)=some eE→j≠k∧look j st.b=some eE:=fun j eE af=>by
      rw[Kb]at af;split at af
      ·cases af
      ·rename_i e;exact⟨e,af⟩
     have EN:∀j,(look j (si k st.b)).isSome→(look j st.b).isSome:=fun j af=>by obtain⟨eE,iC⟩:=fJ.1 af;simp[(hV j eE iC).2]
     have qn:∀(g:aH) (n:Nat) (v:Value),(look g st.e).isSome→ν.ow g=some (n,v)→v.ownBlock=some bl→eK:=fun g n v J U ao=>h.good.obx g k n v bl J (by simp[dm]) U ao g1;have mg:a8 w bo (.eptr x) (a.tmps.getD s undef):=by
      have ag:=h.slot s;rw[ab]at ag;simp only[a8]at ag⊢;obtain⟨b1,a6,bE⟩:=ag;rw[g1]at a6;cases a6;have av:lx w bo.A bl 0 us.toList:=Ta g4 (fun o ax=>.inr ⟨rfl,ax⟩) _ 0 rfl;have g6:c5 w bo cs us.toList:=Vp ax g5;unfold ID at ae;split at ae
      ·rename_i p;simp only[c5]at g6;obtain⟨u,ck,ak,aC,bk⟩:=g6;subst bk;split at ae
       ·cases ae;exact⟨bl,0,.agg us,bE,by simp only[a8];exact⟨us,rfl,by rw[ak];simp only[c5];exact⟨u,[],rfl,aC,rfl⟩⟩,by simpa[pe]using av⟩
       ·cases ae;refine⟨bl,0,u,bE,aC.1,?_⟩;rw[aii aC.2,←ak];exact av
      ·split at ae
       ·cases ae;exact⟨bl,0,.agg us,bE,by simp only[a8];exact⟨us,rfl,g6⟩,by simpa[pe]using av⟩
       ·cases ae
     refine⟨bo,Lv (ν:=bo) (st:={st with b:=si k st.b}) ⟨⟨fun b o bg=>?_,fun j eE af=>?_,fun j dx b J U=>h.good.inj j dx b (EN j J) (EN dx U),fun g o a1=>?_,h.good.oinj,fun g j n v b J U=>h.good.obx g j n v b J (EN j U),h.good.one,fun b aO=>h.good.otr b (aO.imp (fun⟨j,bC,a2⟩=>⟨j,EN j bC,a2⟩) id)⟩,⟨h.fr.os,h.fr.tape,h.fr.output,h.fr.size,h.fr.block,fun b o bg=>⟨.inl (h.fr.keep b o bg).1,(h.fr.keep b o bg).2⟩,fun b o bg=>?_,h.fr.obj,h.fr.obn,h.fr.row,h.fr.obr,h.fr.trd,h.fr.trb,h.fr.trn,h.fr.sh⟩,h.defers,h.size,fun i=>x5 ax (h.slot i),h.new⟩ mg⟩
     ·rcases bg with bg|⟨rfl,_⟩
      ·exact h.good.alt b o bg
      ·exact bD
     ·obtain⟨cF,jh⟩:=hV j eE af;obtain⟨ie,ck,fN,f1,f2,f3,f4,f5⟩:=h.good.box j eE jh;refine⟨ie,ck,fN,f1,f2,fun o bg=>?_,f4,pX ax f5⟩;rcases bg with bg|⟨rfl,_⟩
      ·exact f3 o bg
      ·exact cF (h.good.inj j k _ (by simp[jh]) (by simp[dm]) f1 g1)
     ·obtain⟨v0,fu,ak,aC,bk,dc⟩:=h.good.own g o a1;have vf:∀b,v0.ownBlock=some b→∀j,bo.A b j→ν.A b j:=fun b ad j bg=>by
       rcases bg with bg|⟨rfl,_⟩
       ·exact bg
       ·exact(qn g _ v0 (by simp[a1]) ak ad).elim
      exact⟨v0,fu,ak,aC,fun b ad=>⟨(bk b ad).1,fun j bg=>(bk b ad).2 j (vf b ad j bg)⟩,rO ax vf dc⟩
     ·rcases bg with bg|⟨rfl,_⟩
      ·exact h.fr.fresh b o bg
      ·exact .inr g2
    ·cases he
   ·cases he
  ·cases he
 ·cases he
def rN(st:bq)(x:dn)(b:Bool):bq:=match x with
 | .t i=>{st with t:=put i (.bool b) st.t}
 | .c _=>st
def cW(P:cD)(ob:List aH):C→(Exit→bq→Prop)→bq→Prop
 | .skip,Q,st=>Q .normal st
 | .region gs,Q,st=>hS P gs st (Q .normal)
 | .drawn q N gs,Q,st=>hJ P q [] st.n gs st (tk (st.n+N) st.o (Q .normal))
 | .drawnW nw N gs,Q,st=>(∀j∈nw,.obj j∉st.o)∧hJ P false nw st.n gs st (tk (st.n+N) (nw.map aH.obj++st.o) (Q .normal))
 | .seq a b,Q,st=>cW P ob a (fun e st'=>match e with| .normal=>cW P ob b Q st'|e=>Q e st') st
 | .cond x t e,Q,st=>match cp st.t x with
  | .bool b=>(b=true→cW P ob t Q (rN st x true))∧(b=false→cW P ob e Q (rN st x false))
  |_=>eK
 | .block id c,Q,st=>cW P ob c (fun e st'=>match e with| .exit j=>if j=id then Q .normal st' else Q (.exit j) st'|e=>Q e st') st
 | .loop c,Q,st=> ∃(gU:Nat→bq→Prop) (m:Nat) (wi:bq),ix ob st wi∧gU m wi∧
   ∀k s,gU k s→(∀i,dZ (get i s.t))→(∀j cs,look j s.b=some cs→hP cs=true→eo cs)→cW P ob c (fun e ai=>match e with| .normal=> ∃bK ov,bK<k∧ix ob ai ov∧gU bK ov|e=>Q e ai) s
 | .exit id,Q,st=>Q (.exit id) st
 | .ret,Q,st=>Q .ret st
 | .pub s c,Q,st=>match vZ st s with
  |some st'=>cW P ob c Q st'
  |none=>eK
 | .pubB s c,Q,st=>match vY st s with
  |some st'=>cW P ob c Q st'
  |none=>eK
 | .fg o5 s c,Q,st=>cW P ob c Q {st with t:=put s (yR o5 (get s st.t)) st.t}
 | .fz eX s c,Q,st=>match vc st eX s with
  |some st'=>cW P ob c Q st'
  |none=>eK
 | .no,_,_=>eK
def hp(N:Nat)(bB:List (Nat×dA)):C→Code→Bool
 | .skip,.skip=>true
 | .region gs,.region _ ops false=>kg N bB ops.toList gs ops.toList
 | .drawn _ N' gs,.region _ ops true=>N'==N&&kg N bB ops.toList gs ops.toList&&AT gs ops.toList&&yL N gs
 | .drawnW _ N' gs,.region _ ops true=>N'==N&&kg N bB ops.toList gs ops.toList&&AT gs ops.toList&&yL N gs
 | .seq a b,.seq x y=>hp N bB a x&&hp N bB b y
 | .cond x t e,.cond o dJ fG=>eg x o&&hp N bB t dJ&&hp N bB e fG
 | .block id c,.block B4 cr=>id==B4&&hp N bB c cr
 | .loop c,.loop cr=>hp N bB c cr
 | .exit id,.exit B4=>id==B4
 | .ret,.ret=>true
 | .pub _ c,cr=>hp N bB c cr
 | .pubB _ c,cr=>hp N bB c cr
 | .fg _ _ c,cr=>hp N bB c cr
 | .fz _ _ c,cr=>hp N bB c cr
 | .no,_=>true
 |_,_=>false
theorem Q0{N:Nat}{bB:List (Nat×dA)}{ops:List Oper}:∀{gs:List c4} {os:List Oper},kg N bB ops gs os=true→gs.length=os.length
 |[],[],_=>rfl
 |[],_::_,h=>by simp[kg]at h
 |_::_,[],h=>by simp[kg]at h
 |g::gs,o::os,h=>by simp only[kg,cC]at h;simp[Q0 h.2]
def W6(P:cD)(C:e9)(c:Code)(Q:Exit→bq→Prop)(st:bq):Prop:= ∀a w ν,cS C st a w ν→c.wp P (fun e bn w'=> ∃st' bo,Q e st'∧cS C st' bn w' bo) a w
theorem qZ{P:cD}(hm:P.follows .mixedOrders=true){bB:List (Nat×dA)}(aO:fL P bB=true){X:e9}:∀(c:C) (code:Code) (Q:Exit→bq→Prop) (st:bq),hp X.N bB c code=true→cW P X.ob c Q st→W6 P X code Q st
 | .skip,code,Q,st,ax,he=>by
  cases code<;>simp only[hp]at ax<;>try cases ax
  intro a w ν aK;exact wp_skip ⟨st,ν,he,aK⟩
 | .region gs,code,Q,st,ax,he=>by
  cases code<;>try(simp[hp]at ax;done)
  rename_i id ops draw;cases draw<;>simp only[hp]at ax
  ·intro a w ν aK;refine wp_region ?_;have av:gs.length=ops.size:=by simpa using Q0 ax
   rw[List.range_eq_range',←av];exact P9 aO (K:=Q .normal) (fun st' bn w' bo J U=>⟨st',bo,J,U⟩) gs ops.toList 0 (by simp) ax st a w ν he aK
  ·cases ax
 | .drawn q N gs,code,Q,st,ax,he=>by
  cases code<;>try(simp[hp]at ax;done)
  rename_i id ops draw;cases draw<;>simp only[hp]at ax
  ·cases ax
  ·simp only[cC,dO]at ax;obtain⟨⟨⟨rfl,J⟩,U⟩,ao⟩:=ax;intro a w ν aK;exact P8 hm aO J U ao (nw:=[]) (K:=Q .normal) (fun st' bn w' bo J U=>⟨st',bo,J,U⟩) (by simp) he aK
 | .drawnW nw N gs,code,Q,st,ax,he=>by
  cases code<;>try(simp[hp]at ax;done)
  rename_i id ops draw;cases draw<;>simp only[hp]at ax
  ·cases ax
  ·simp only[cC,dO]at ax;obtain⟨⟨⟨rfl,J⟩,U⟩,ao⟩:=ax;intro a w ν aK;exact P8 hm aO J U ao (nw:=nw) (K:=Q .normal) (fun st' bn w' bo J U=>⟨st',bo,J,U⟩) he.1 he.2 aK
 | .seq x y,code,Q,st,ax,he=>by
  cases code<;>try(simp[hp]at ax;done)
  rename_i oP la;simp only[hp,cC]at ax;intro a w ν aK;refine wp_seq ?_;have J:=qZ hm aO x oP _ st ax.1 he a w ν aK;refine wp_mono J fun e bn w' cu=>?_;obtain⟨st',bo,br,dD⟩:=cu;cases e with
  |normal=>exact qZ hm aO y la Q st' ax.2 br bn w' bo dD
  |_=>exact⟨st',bo,br,dD⟩
 | .cond x t e,code,Q,st,ax,he=>by
  cases code<;>try(simp[hp]at ax;done)
  rename_i o YJ ce;simp only[hp,cC]at ax;intro a w ν aK;simp only[cW]at he;have ae:=eh aK ax.1.1;split at he
  ·rename_i b ad;rw[ad]at ae;simp only[a8]at ae;have BV:cS X (rN st x b) a w ν:=by
    unfold rN;split
    ·exact Lu aK (by simpa[cp]using ad)
    ·exact aK
   refine wp_cond ae ?_;cases b
   ·exact qZ hm aO e ce Q _ ax.2 (he.2 rfl) a w ν BV
   ·exact qZ hm aO t YJ Q _ ax.1.2 (he.1 rfl) a w ν BV
  ·exact he.elim
 | .block id c,code,Q,st,ax,he=>by
  cases code<;>try(simp[hp]at ax;done)
  rename_i B4 cr;simp only[hp,cC,dO]at ax;obtain⟨rfl,ax⟩:=ax;intro a w ν aK;refine wp_block ?_;refine wp_mono (qZ hm aO c cr _ st ax he a w ν aK) fun e bn w' cu=>?_;obtain⟨st',bo,br,dD⟩:=cu;cases e with
  |exit j=>
   simp only[Exit.inBlock]at br⊢;by_cases af:j=id
   ·rw[if_pos af]at br⊢;exact⟨st',bo,br,dD⟩
   ·rw[if_neg af]at br⊢;exact⟨st',bo,br,dD⟩
  |_=>exact⟨st',bo,br,dD⟩
 | .loop c,code,Q,st,ax,he=>by
  cases code<;>try(simp[hp]at ax;done)
  rename_i cr;simp only[hp]at ax;intro a w ν aK;simp only[cW]at he;obtain⟨gU,m,wi,hw,hi,jz⟩:=he;refine wp_loop_ghost (fun k a w=> ∃s ν,gU k s∧cS X s a w ν) m ⟨wi,_,hi,aK.weaker hw⟩ ?_;intro k a w ac0;obtain⟨s,ν,ag,BW⟩:=ac0;have J:=jz k s ag (fun i=>Vv (BW.slot i)) (fun j cs af=>by obtain⟨bl,us,el,_,_,_,_,g5⟩:=BW.good.box j cs af;exact Vj g5);refine wp_mono (qZ hm aO c cr _ s ax J a w ν BW) fun e bn w' cu=>?_;obtain⟨st',bo,br,dD⟩:=cu;cases e with
  |normal=>obtain⟨bK,ov,ak,aC,bk⟩:=br;exact⟨bK,ak,ov,_,bk,dD.weaker aC⟩
  |_=>exact⟨st',bo,br,dD⟩
 | .exit id,code,Q,st,ax,he=>by
  cases code<;>try(simp[hp]at ax;done)
  rename_i B4;simp only[hp,dO]at ax;subst ax;intro a w ν aK;exact wp_exit ⟨st,ν,he,aK⟩
 | .ret,code,Q,st,ax,he=>by
  cases code<;>try(simp[hp]at ax;done)
  intro a w ν aK;exact wp_ret ⟨st,ν,he,aK⟩
 | .pub s c,code,Q,st,ax,he=>by
  simp only[hp]at ax;simp only[cW]at he;split at he
  ·rename_i st' ag;intro a w ν aK;obtain⟨bo,J⟩:=aiu aK ag;exact qZ hm aO c code Q st' ax he a w bo J
  ·exact he.elim
 | .pubB s c,code,Q,st,ax,he=>by
  simp only[hp]at ax;simp only[cW]at he;split at he
  ·rename_i st' ag;intro a w ν aK;obtain⟨bo,J⟩:=ait aK ag;exact qZ hm aO c code Q st' ax he a w bo J
  ·exact he.elim
 | .fg o5 s c,code,Q,st,ax,he=>by simp only[hp]at ax;simp only[cW]at he;intro a w ν aK;exact qZ hm aO c code Q _ ax he a w ν (Lv aK (abN (aK.slot s)))
 | .fz eX s c,code,Q,st,ax,he=>by
  simp only[hp]at ax;simp only[cW]at he;intro a w ν aK;split at he
  ·rename_i st' da;obtain⟨bo,J⟩:=ab2 aK da;exact qZ hm aO c code Q st' ax he a w bo J
  ·exact he.elim
 | .no,code,Q,st,ax,he=>by simp only[cW]at he
inductive bu where
 |tmp (i:Nat)
 |cell (i:Nat) (agg:Bool) (sz:Nat)
def aX(st:bq):bu→aY (Prop×ah)
 | .tmp i=>some (True,get i st.t)
 | .cell i agg sz=>mr st.b st.e agg sz (get i st.t)
def aW(st:bq):List bu→aY (Prop×List ah)
 |[]=>some (True,[])
 |r::fc=>match aX st r,aW st fc with
  |some (c,p),some (cr,cv)=>some (c∧cr,p::cv)
  |_,_=>none
def qC(bB:List (Nat×dA)):List bu→List ResultVar→Bool
 |[],[]=>true
 | .tmp i::fc,.tmp j::os=>i==j&&qC bB fc os
 | .cell i agg sz::fc,.cell j t::os=>i==j&&(match dY bB t with|some f=>f.size==sz&&f.kind.isAgg==agg|none=>false)&&qC bB fc os
 |_,_=>false
def aV:List ah→ah
 |[p]=>p
 |cv=>.tuple cv
def Gu(tmps:Array Value):ResultVar→Sem Value
 | .tmp t=>pure (tmps.getD t undef)
 | .cell x t=>do loadVar t (←asAddr (tmps.getD x undef))
theorem ajG(fn:Func)(tmps:Array Value):results fn tmps=(do let bc←fn.results.mapM (Gu tmps);pure (if h:bc.size=1 then bc[0]else .tuple bc)):=by unfold results;congr 2
theorem LC{P:cD}{bB:List (Nat×dA)}(aO:fL P bB=true){X:e9}{st:bq}{a:Act}{w:World}{ν:bd}(aK:cS X st a w ν):
  ∀(fc:List bu) (os:List ResultVar) (c:Prop) (cv:List ah),qC bB fc os=true→aW st fc=some (c,cv)→c→
  ∃bc,(os.mapM (Gu a.tmps)).run P w= .ok bc w∧cP w ν cv bc
 |[],[],c,cv,_,he,_=>by simp only[aW]at he;cases he;exact⟨[],by simp,by simp[cP]⟩
 |[],_::_,_,_,ax,_,_=>by simp[qC]at ax
 | .tmp _::_,[],_,_,ax,_,_=>by simp[qC]at ax
 | .cell _ _ _::_,[],_,_,ax,_,_=>by simp[qC]at ax
 |r::fc,o::os,c,cv,ax,he,au=>by
  simp only[aW]at he;split at he
  ·rename_i bH p cl Um J U;cases he;cases r with
   |tmp i=>
    cases o with
    |cell _ _=>simp[qC]at ax
    |tmp j=>simp only[qC,cC,dO]at ax;obtain⟨rfl,ax⟩:=ax;simp only[aX]at J;cases J;obtain⟨bc,g1,g2⟩:=LC aO aK fc os cl Um ax U au.2;refine⟨a.tmps.getD i undef::bc,?_,by simp only[cP];exact⟨_,_,rfl,aK.slot i,g2⟩⟩;simp only[List.mapM_cons,fE,Gu,gu,fI,g1]
   |cell i agg sz=>
    cases o with
    |tmp _=>simp[qC]at ax
    |cell j t=>
     simp only[qC,cC,dO]at ax;obtain⟨⟨rfl,ao⟩,ax⟩:=ax;split at ao
     ·rename_i f aJ;simp only[cC,dO]at ao;obtain⟨rfl,rfl⟩:=ao;simp only[aX]at J;obtain⟨bc,g1,g2⟩:=LC aO aK fc os cl Um ax U au.2;obtain⟨v,f1,f2⟩:=Fv aO aK.good aJ (aK.slot i) J au.1;have BS:∃sc,a.tmps.getD i undef= .pointer (some sc):=by
       have ag:=aK.slot i;unfold mr at J;split at J
       ·rename_i dF k n vC q0 ab;rw[ab]at ag;simp only[a8]at ag;obtain⟨⟨b,o,e⟩,_⟩:=ag;exact⟨_,e⟩
       ·rename_i k off ab;rw[ab]at ag;simp only[a8]at ag;obtain⟨b,_,e⟩:=ag;exact⟨_,e⟩
       ·rename_i q ab;rw[ab]at ag;simp only[a8]at ag;obtain⟨b,off,u,e,_⟩:=ag;exact⟨_,e⟩
       ·cases J
      obtain⟨sc,Bu⟩:=BS;rw[Bu]at f1;simp only[Instr.loadAt,Instr.sureAddr,fE,gu,fI]at f1;refine⟨v::bc,?_,by simp only[cP];exact⟨_,_,rfl,f2,g2⟩⟩;have ac4:(asAddr (.pointer (some sc)):Sem Addr).run P w= .ok sc w:=rfl;simp only[List.mapM_cons,fE,Gu,gu,fI,g1,Bu,ac4,f1]
     ·cases ao
  ·cases he
theorem CY{w:World}{ν:bd}:∀{cv:List ah} {bc:List Value},cP w ν cv bc→bc.length=cv.length
 |[],bc,h=>by simp only[cP]at h;subst h;rfl
 |p::cv,bc,h=>by simp only[cP]at h;obtain⟨u,ck,rfl,_,U⟩:=h;simp[CY U]
def j6:Nat→List ah→List (Nat×ah)
 |_,[]=>[]
 |i,p::cv=>(i,p)::j6 (i+1) cv
theorem IN:∀(cv:List ah) (i j:Nat),get j (j6 i cv)=if i≤j∧j<i+cv.length then cv.getD (j-i) .junk else .junk
 |[],i,j=>by simp[j6,get]
 |p::cv,i,j=>by
  simp only[j6,get];by_cases h:i=j
  ·subst h;simp
  ·rw[if_neg h,IN cv (i+1) j];by_cases U:i≤j∧j<i+(p::cv).length
   ·rw[if_pos U,if_pos (by simp at U⊢;omega)];have:j-i=(j-(i+1))+1:=by omega
    rw[this];simp
   ·rw[if_neg U,if_neg (by simp at U⊢;omega)]
def lU{α:Type}(ai:cK):List (aH×α)→Prop
 |[]=>True
 |(k,_)::r=>inObs ai k∧lU ai r
theorem zz{α:Type}{ai:cK}:∀{l:List (aH×α)},lU ai l→∀k,(look k l).isSome→inObs ai k
 |[],_,k,h=>by simp[look]at h
 |(i,x)::r,ab,k,h=>by
  simp only[lU]at ab;simp only[look]at h;split at h
  ·rename_i e;subst e;exact ab.1
  ·exact zz ab.2 k h
def cT(fc:List bu)(s:cK)(Q:ah→cK→Prop)(e:Exit)(st:bq):Prop:=
 (e= .ret∨e= .normal)∧match aW st fc with
  |some (c,cv)=>c∧∃ai,lU ai s.b∧lU ai s.e∧gC (inObs ai) ai.b st.b∧oz (inObs ai) ai.e st.e∧iI ai∧aB (inObs ai) (dq (aV cv))∧Q (dq (aV cv)) ai
  |none=>eK
theorem bN.of{P:cD}(hm:P.follows .mixedOrders=true){bB:List (Nat×dA)}(aO:fL P bB=true){f:FuncId}{fn:Func}(aJ:P.funcs[f]? =some fn){code:Code}(ad:fn.body=some code)(BM:(fn.name== "runtime.NumGoroutine")=false){c:C}(au:hp fn.ntmps bB c code=true){fc:List bu}(BW:qC bB fc fn.results.toList=true)
  {args:List ah} (av:args.length≤fn.ntmps) {s:cK} (o3:iI s) {Q:ah→cK→Prop} (he:ez args→(∀j cs,look j s.b=some cs→hP cs=true→eo cs)→cW P (cV s) c (cT fc s Q) ⟨j6 0 args,s.b,s.e,0,cV s⟩):bN P f args s Q:=by
 intro w ν bc a1 ae aK;refine .inl ⟨⟨fn,aJ,by simp[ad],BM⟩,?_⟩;have iT:=CY aK;have kG:bc.size=args.length:=by simpa using iT
 let X:e9:=⟨w,ν,fw ν s,fn.ntmps,cV s⟩
 have n9:∀k,fresh 0 (cV s) k→ν.bx k=none∧ν.ow k=none∧∀j b,¬ν.tr k j b:=by
  intro k ab;cases k with
  |loc m=>exact⟨(ae _).1 (o3.1 m),(ae _).2.1 (o3.2 m),(ae _).2.2⟩
  |obj m=>
   simp only[fresh,true_and]at ab;refine⟨?_,?_,(ae _).2.2⟩
   ·refine(ae _).1 ?_;cases h:look (.obj m) s.b with
    |none=>rfl
    |some x=>exact absurd (sT (.inl (by simp[h]))) ab
   ·refine(ae _).2.1 ?_;cases h:look (.obj m) s.e with
    |none=>rfl
    |some x=>exact absurd (sT (.inr (by simp[h]))) ab
 have jg:∀m,(ν.bx (.obj m)≠none∨ν.ow (.obj m)≠none)→ .obj m∈cV s:=by
  intro m hm;refine Classical.byContradiction fun au=>?_;obtain⟨J,U,_⟩:=n9 (.obj m) ⟨trivial,au⟩;rcases hm with hm|hm
  ·exact hm J
  ·exact hm U
 have pH:cS X ⟨j6 0 args,s.b,s.e,0,cV s⟩ {tmps:=bc++Array.replicate (fn.ntmps-bc.size) undef,defers:=[]} w ν:=by
  refine⟨⟨a1.alt,fun k cs ab=>?_,a1.inj,fun g o dU=>?_,a1.oinj,a1.obx,a1.one,a1.otr⟩,⟨rfl,rfl,rfl,eR _,fun _ _ _=>rfl,fun b o h=>⟨h,rfl⟩,fun b o h=>.inl h,fun n b h=>h,fun n b h=>jg n (.inl (by rw[h];simp)),fun m n u h=>⟨n,u,h,.inl ⟨rfl,rfl⟩⟩,fun m n u h=>jg m (.inr (by rw[h];simp)),fun k j _ _ b h=>absurd h ((ae k).2.2 j b),fun k j b h=>absurd h ((ae k).2.2 j b),fun k j b h=>absurd h ((ae k).2.2 j b),fun _ _ _=>rfl⟩,rfl,?_,fun i=>?_,n9⟩
  ·obtain⟨bl,us,el,g1,g2,g3⟩:=a1.box k cs ab;exact⟨bl,us,el,g1,.inl g2,g3⟩
  ·obtain⟨v,us,g1,g2,g3,g4⟩:=a1.own g o dU;exact⟨v,us,g1,g2,fun bl e5=>⟨.inl (g3 bl e5).1,(g3 bl e5).2⟩,g4⟩
  ·show(bc++Array.replicate (fn.ntmps-bc.size) undef).size=fn.ntmps;simp;omega
  ·rw[IN];by_cases hi:i<args.length
   ·rw[if_pos (by omega)];have tU:args[i]? =some args[i]:=cf hi;obtain⟨v,ak,aC⟩:=Gm i aK tU;have aG:(bc++Array.replicate (fn.ntmps-bc.size) undef).getD i undef=v:=by
     have H5:bc[i]? =some v:=by simpa using ak
     rw[Array.getD_eq_getD_getElem?,Array.getElem?_append_left (by omega),H5];rfl
    show a8 w ν _ ((bc++Array.replicate (fn.ntmps-bc.size) undef).getD i undef);rw[aG];simpa[List.getD,tU]using aC
   ·rw[if_neg (by omega)];simp[a8]
 have tQ:=he (Vt aK) (fun j cs af=>by obtain⟨bl,us,el,_,_,_,_,g5⟩:=a1.box j cs af;exact Vj g5);have aeB:=qZ hm aO (X:=X) c code (cT fc s Q) _ au tQ _ w ν pH;refine calls_of_wp aJ ad (wp_mono aeB fun e bn w' cu=>?_);obtain⟨st',bo,⟨tP,br⟩,dD⟩:=cu;cases xt:aW st' fc with
 |none=>simp[xt]at br
 |some x=>
  obtain⟨cr,cv⟩:=x;simp only[xt]at br;obtain⟨hq,ai,kb,ke,a6,bE,bX,cX,c8⟩:=br;obtain⟨wg,g1,g2⟩:=LC aO dD fc fn.results.toList cr cv BW xt hq;have aeg:=CY g2;have dC:bn.defers=[]∧∃v,(results fn bn.tmps).run P w'= .ok v w'∧(fun(e:Ending) w'=> ∃v r ai bo,e= .returned v∧Q r ai∧a8 w' bo r v∧Good (fun bl=>fw ν s bl∨w.heap.size≤bl) w' bo ai.b ai.e∧oV bo ai∧iI ai∧p8 ⟨w,ν,fw ν s,0,cV s⟩ w' bo) (.returned v) w':=by
   refine⟨dD.defers,?_⟩;have iF:(results fn bn.tmps).run P w'= .ok (if h:wg.toArray.size=1 then wg.toArray[0]else .tuple wg.toArray) w':=by rw[ajG];simp only[fE,Array.mapM_eq_mapM_toList,Sem.run_map,g1,fI,gu]
   refine⟨_,iF,_,dq (aV cv),ai,bo.cut (inObs ai),rfl,c8,?_,dD.good.cut a6 bE (fun bl h _=>h),?_,bX,?_⟩
   ·have mf:a8 w' bo (aV cv) (if h:wg.toArray.size=1 then wg.toArray[0]else .tuple wg.toArray):=by
     match cv,wg,g2,aeg with
     |[p],[v],g2,_=>simp only[cP]at g2;obtain⟨u,ck,ak,aC,_⟩:=g2;cases ak;simpa[aV]using aC
     |[],[],g2,_=>simp[aV,a8,cP]
     |p::dp::cv,v::v2::wg,g2,_=>rw[dif_neg (by simp)];simp only[aV,a8];exact⟨_,rfl,by simpa using g2⟩
     |[_],[],_,h=>simp at h
     |[],_::_,_,h=>simp at h
     |[_],_::_::_,_,h=>simp at h
     |_::_::_,[],_,h=>simp at h
     |_::_::_,[_],_,h=>simp at h
    exact uI (oK.cut _ w' bo) _ _ cX (x6 _ _ mf)
   ·intro k;refine⟨?_,?_,?_⟩;rotate_left 2
    ·rintro j b ⟨ag,ad⟩;obtain⟨t1,t2⟩:=dD.fr.trn k j b ad;rcases ag with ag|ag<;>obtain⟨x,h6⟩:=fJ.1 ag
     ·obtain⟨bl,ck,el,ak,_⟩:=dD.good.box k x (a6 k x h6).1;rw[t1]at ak;cases ak
     ·obtain⟨v',ck,ak,_⟩:=dD.good.own k x (bE k x h6).1;rw[t2]at ak;cases ak
    ·intro ab;by_cases ag:inObs ai k
     ·rw[bd.cut_bx ag];rcases ag with ag|ag
      ·rw[ab]at ag;cases ag
      ·obtain⟨x,h6⟩:=fJ.1 ag;obtain⟨v',ck,ak,_⟩:=dD.good.own k x (bE k x h6).1;rcases dD.good.one k with J|J
       ·exact J
       ·rw[J]at ak;cases ak
     ·exact(bd.cut_no ag).1
    ·intro ab;by_cases ag:inObs ai k
     ·rw[bd.cut_ow ag];rcases ag with ag|ag
      ·obtain⟨x,h6⟩:=fJ.1 ag;obtain⟨bl,ck,el,ak,_⟩:=dD.good.box k x (a6 k x h6).1;rcases dD.good.one k with J|J
       ·rw[J]at ak;cases ak
       ·exact J
      ·rw[ab]at ag;cases ag
     ·exact(bd.cut_no ag).2.1
   ·refine⟨dD.fr.os,dD.fr.tape,dD.fr.output,dD.fr.size,dD.fr.block,dD.fr.keep,dD.fr.fresh,fun n b h=>?_,fun n b h=>jg n (.inl (by rw[h];simp)),fun m n u h=>?_,fun m n u h=>jg m (.inr (by rw[h];simp)),fun k j bK dx b J U=>dD.fr.trd k j bK dx b J.2 U.2,fun k j b ad=>dD.fr.trb k j b ad.2,fun k j b ad=>(by rw[bd.cut_bx ad.1,bd.cut_ow ad.1];exact dD.fr.trn k j b ad.2),dD.fr.sh⟩
    ·have ag:inObs ai (.obj n):=by
      cases av:look (.obj n) s.b with
      |none=>rw[(ae _).1 av]at h;cases h
      |some x=>exact zz kb _ (by simp[av])
     rw[bd.cut_bx ag];exact dD.fr.obj n b h
    ·have ag:inObs ai (.obj m):=by
      cases av:look (.obj m) s.e with
      |none=>rw[(ae _).2.1 av]at h;cases h
      |some x=>exact zz ke _ (by simp[av])
     rw[bd.cut_ow ag];exact dD.fr.row m n u h
  rcases tP with rfl|rfl<;>exact dC
def b0(bB:List (Nat×dA))(c:C)(fc:List bu)(agf:Nat)(fn:Func):Bool:=
 match fn.body with
 |some code=>hp fn.ntmps bB c code&&qC bB fc fn.results.toList&& !(fn.name== "runtime.NumGoroutine")&&decide (agf≤fn.ntmps)
 |none=>false
theorem bN.mk{P:cD}(hm:P.follows .mixedOrders=true){bB:List (Nat×dA)}(aO:fL P bB=true){f:FuncId}{fn:Func}(aJ:P.funcs[f]? =some fn){c:C}{fc:List bu}{n:Nat}(eU:b0 bB c fc n fn=true)
  {args:List ah} (av:args.length≤n) {s:cK} (o3:iI s) {Q:ah→cK→Prop} (he:ez args→(∀j cs,look j s.b=some cs→hP cs=true→eo cs)→cW P (cV s) c (cT fc s Q) ⟨j6 0 args,s.b,s.e,0,cV s⟩):bN P f args s Q:=by
 unfold b0 at eU;split at eU
 ·rename_i code ad;simp only[cC,Bool.not_eq_true',fk]at eU;obtain⟨⟨⟨J,U⟩,ao⟩,ba⟩:=eU;exact bN.of hm aO aJ ad ao J U (j8 av ba) o3 he
 ·cases eU
theorem xP:iI ⟨[],[]⟩:=⟨fun _=>rfl,fun _=>rfl⟩
def bz(fc:List bu)(r:ah)(e:Exit)(st:bq):Prop:=
 (e= .ret∨e= .normal)∧match aW st fc with
  |some (c,cv)=>c∧dq (aV cv)=r
  |none=>eK
theorem bF.mk{P:cD}(hm:P.follows .mixedOrders=true){bB:List (Nat×dA)}(aO:fL P bB=true){f:FuncId}{fn:Func}(aJ:P.funcs[f]? =some fn){c:C}{fc:List bu}{n:Nat}(eU:b0 bB c fc n fn=true)
  {args:List ah} (av:args.length≤n) {r:ah} (aK:aB (fun _=>eK) r) (he:ez args→cW P [] c (bz fc r) ⟨j6 0 args,[],[],0,[]⟩):bF P f args r:=by
 refine bN.mk hm aO aJ eU av xP fun J _=>?_;have:=he J;have hU:bz fc r=cT fc ⟨[],[]⟩ (fun eC ai=>eC=r∧ai=⟨[],[]⟩):=by
  funext e st;unfold bz cT;apply propext;refine and_congr_right fun _=>?_;cases aW st fc with
  |none=>exact Iff.rfl
  |some x=>
   obtain⟨c,cv⟩:=x;refine and_congr_right fun _=>?_;constructor
   ·intro h;refine⟨⟨[],[]⟩,trivial,trivial,fun k cs ab=>by simp[look]at ab,fun k cs ab=>by simp[look]at ab,xP,?_,h,rfl⟩;rw[h];exact vJ (fun k ab=>ab.elim) r aK
   ·rintro⟨ai,_,_,_,_,_,_,h,_⟩;exact h
 rw[hU]at this;exact this
theorem MD{α:Type}{β:Type}:∀l:List (aH×α),cz ([]:List (aH×β)) l=l
 |[]=>rfl
 |(k,x)::r=>by simp[cz,look,MD r]
theorem c6.val{P:cD}{n:Nat}{args:List ah}{st:bq}{d:aY Nat}{K:bq→Prop}{r:ah}(ab:aI (fun _=>eK) args)(aJ:bF P n args r)(h:K {st with t:=eH d r st.t}):c6 P n args st d K:=by
 refine .inl ⟨⟨[],[]⟩,_,fun k cs ab=>by simp[look]at ab,fun k cs ab=>by simp[look]at ab,xP,jM (fun _ h=>h.elim) _ ab,aJ,?_⟩;rintro eC ai ⟨rfl,rfl⟩;refine⟨⟨fun m h=>by simp[look]at h,fun m h=>by simp[look]at h⟩,?_⟩;have:after st ⟨[],[]⟩ ⟨[],[]⟩ d eC={st with t:=eH d eC st.t}:=by simp[after,MD,cV]
 rw[this];exact h
@[reducible,simp] def gr(n:Int):dn:= .c (.int .i64 n)
@[reducible,simp] def I(a b:Nat):c4:=⟨none,.s (.v a (.mov (.t b)))⟩
@[reducible,simp] def b7(a:Nat)(i:fM):c4:=⟨none,.s (.v a i)⟩
@[reducible,simp] def cU(i:ei):c4:=⟨none,.s i⟩
@[reducible,simp] def dK(a f:Nat)(l:List dn):c4:=⟨none,.call (some a) (.c (.func f [])) l⟩
@[reducible,simp] def bZ(j:Nat)(w:Bool)(a b:Nat):c4:=⟨some (j,w),.s (.v a (.mov (.t b)))⟩
@[reducible,simp] def wz(j:Nat)(w:Bool)(a:Nat)(i:fM):c4:=⟨some (j,w),.s (.v a i)⟩
@[reducible,simp] def ys(j:Nat)(w:Bool)(i:ei):c4:=⟨some (j,w),.s i⟩
@[reducible,simp] def cj(d s a b:Nat):c4:=b7 d (.iaddr s (.t a) (.t b))
@[reducible,simp] def aw(d s a:Nat):c4:=b7 d (.load false s (.t a))
@[reducible,simp] def a7(d s a:Nat):c4:=b7 d (.load true s (.t a))
@[reducible,simp] def aF(d o s a:Nat):c4:=b7 d (.faddr o false s (.t a))
@[reducible,simp] def gq(d o s a:Nat):c4:=b7 d (.faddr o true s (.t a))
@[reducible,simp] def bh(d:Nat)(o:BinOp)(a b:Nat):c4:=b7 d (.bin o false (.t a) (.t b))
@[reducible,simp] def aT(d:Nat)(o:BinOp)(a:Nat)(n:Int):c4:=b7 d (.bin o false (.t a) (gr n))
@[reducible,simp] def cb(d a:Nat):c4:=b7 d (.len (.t a))
@[reducible,simp] def cx(d a:Nat):c4:=b7 d (.notB (.t a))
@[reducible,simp] def cH(d i a:Nat):c4:=b7 d (.ext i (.t a))
@[reducible,simp] def c2(d a b:Nat):c4:=b7 d (.pick (.t a) (.c (.bool true)) (.t b))
@[reducible,simp] def dy(d a b:Nat):c4:=b7 d (.pick (.t a) (.t b) (.c (.bool false)))
@[reducible,simp] def be(d:Nat)(b:Bool):c4:=b7 d (.mov (.c (.bool b)))
@[reducible,simp] def bS(d:Nat)(n:Int):c4:=b7 d (.mov (gr n))
@[reducible,simp] def bM(s a b:Nat):c4:=cU (.store s (.t a) (.t b))
@[reducible,simp] def aq(j:Nat)(w:Bool)(x:c4):c4:=⟨some (j,w),x.i⟩
@[reducible,simp] def aa(l:List c4)(c:C):C:= .seq (.region l) c
@[reducible,simp] def aS(n:Nat)(a b:C):C:= .cond (.t n) a b
@[reducible,simp] def gD(d a:Nat)(l:List dn):c4:=⟨none,.call (some d) (.t a) l⟩
@[reducible,simp] def cM(d f a:Nat):c4:=dK d f [.t a]
@[reducible,simp] def b4(d f a b:Nat):c4:=dK d f [.t a,.t b]
@[reducible,simp] def dt:List ah:=[.int .i64 0,.int .i64 0,.str [],.slice 4 .nil []]
@[reducible,simp] def ij:List ah:=[.int .i64 0,.int .i64 0,.int .i64 0,.str [],.slice 4 .nil []]
@[reducible,simp] def oj:List ah:=[.int .i64 0,.slice 5 .nil [],.slice 1 .nil [],.slice 2 .nil [],.slice 2 .nil []]
@[reducible,simp] def cN(a b:Nat):c4:=cU (.box a none (.t b))
@[reducible,simp] def dh(a:Nat)(l:List ah):c4:=cU (.alloc a none (.agg l))
@[reducible,simp] def eQ(a n:Nat):c4:=b7 a (.mov (.c (.slice n .nil [])))
@[reducible,simp] def iN(a b c d e:Nat):c4:=cU (.app a b c (.t d) (.t e))
@[reducible,simp] def fD(a b c:Nat)(l:List dn):c4:=cU (.bsl a b c l)
@[reducible,simp] def fv(a b:Nat):c4:=b7 a (.nck (.t b))
@[reducible,simp] def jG(d s a:Nat)(n:Int):c4:=b7 d (.iaddr s (.t a) (gr n))
@[reducible,simp] def j7(d:Nat)(l:List ah)(m:List (Nat×Nat×dn)):c4:=b7 d (.build l m)
@[reducible,simp] def fe(a b c:Nat)(x:C):C:= .block 0 (.loop (aa [bh a .lss b c] (.seq (aS a .skip (.exit 0)) x)))
end Go.Pv
namespace Go.Pv
open Go Go.RowKit
theorem dP{α:Type}{l:List α}{i:Nat}(h:i<l.length):∃b,l[i]? =some b∧∀h,(l[i]'h)=b:=⟨l[i],cf h,fun _=>rfl⟩
def LJ(st:bq)(i:ei):Prop:=match lW st i with|some (c,_)=>c|none=>eK
def LK(st:bq)(i:ei):bq:=match lW st i with|some (_,s)=>s|none=>st
def DA(P:cD)(r:List c4)(K:bq→Prop)(st:bq):Prop:=hS P r st K
def yv(P:cD)(ob:List aH)(c:C)(Q:Exit→bq→Prop)(st:bq):Prop:=cW P ob c Q st
def pB(P:cD)(v:ah)(s:Nat)(w:Bool)(i:ee)(r:List c4)(st:bq)(K:bq→Prop):Prop:=
 match v with
 | .bool b=>(b=w→hS P (⟨none,i⟩::r) {st with t:=put s (.bool w) st.t} K)∧(b= !w→hS P r {st with t:=eH i.dst (.tuple []) (put s (.bool !w) st.t)} K)
 | .tuple []=>hS P r {st with t:=eH i.dst (.tuple []) st.t} K
 |_=>eK
def tG(P:cD)(ob:List aH)(v:ah)(x:dn)(t e:C)(Q:Exit→bq→Prop)(st:bq):Prop:=
 match v with
 | .bool b=>(b=true→cW P ob t Q (rN st x true))∧(b=false→cW P ob e Q (rN st x false))
 |_=>eK
def If(P:cD)(v:ah)(d:aY Nat)(xs:List ah)(r:List c4)(st:bq)(K:bq→Prop):Prop:=
 match v with
 | .func n dj=>c6 P n (cZ (xs++dj)) st d (DA P r K)
 |_=>eK
section
variable {P:cD} {ob:List aH} {st:bq} {K:bq→Prop} {r:List c4} {Q:Exit→bq→Prop} {a b c t e:C}
theorem ZE:hS P [] st K=K st:=rfl
theorem ZF{i:ei}:hS P (⟨none,.s i⟩::r) st K=(LJ st i∧hS P r (LK st i) K):=by
 simp only[hS,tF,LJ,LK];cases lW st i with
 |none=>simp
 |some x=>rfl
theorem ZB{d:aY Nat}{f:dn}{xs:List dn}:hS P (⟨none,.call d f xs⟩::r) st K=If P (cp st.t f) d (xs.map (cp st.t)) r st K:=by simp only[hS,tF,If];rfl
theorem ZD{d:Nat}{x:dn}:hS P (⟨none,.next d x⟩::r) st K=sl st d (cp st.t x) (DA P r K):=by simp only[hS,tF];rfl
def wE(P:cD)(ob:List aH)(c:C)(Q:Exit→bq→Prop):aY bq→Prop
 |some st=>cW P ob c Q st
 |none=>eK
theorem Xe:wE P ob c Q (some st)=cW P ob c Q st:=rfl
theorem Zg{s:Nat}:cW P ob (.pub s c) Q st=wE P ob c Q (vZ st s):=by simp only[cW];cases vZ st s<;>rfl
theorem Zc{o5:Bool}{s:Nat}:cW P ob (.fg o5 s c) Q st=cW P ob c Q {st with t:=put s (yR o5 (get s st.t)) st.t}:=rfl
theorem Zd{o5:Bool}{s:Nat}{d:C}:cW P ob (.seq (.fg o5 s c) d) Q st=cW P ob (.seq c d) Q {st with t:=put s (yR o5 (get s st.t)) st.t}:=rfl
theorem Ze{eX:Bool}{s:Nat}:cW P ob (.fz eX s c) Q st=wE P ob c Q (vc st eX s):=by simp only[cW];cases vc st eX s<;>rfl
theorem Zf{eX:Bool}{s:Nat}{d:C}:cW P ob (.seq (.fz eX s c) d) Q st=wE P ob (.seq c d) Q (vc st eX s):=by simp only[cW];cases vc st eX s<;>rfl
theorem Zh{s:Nat}:cW P ob (.pubB s c) Q st=wE P ob c Q (vY st s):=by simp only[cW];cases vY st s<;>rfl
theorem ZA{n:Nat}{dj:List ah}{d:aY Nat}{xs:List ah}:If P (.func n dj) d xs r st K=c6 P n (cZ (xs++dj)) st d (DA P r K):=rfl
theorem ZC{s:Nat}{w:Bool}{i:ee}:hS P (⟨some (s,w),i⟩::r) st K=pB P (get s st.t) s w i r st K:=by simp only[hS,pB];try rfl
theorem ZK{s:Nat}{i:ee}:pB P (.bool true) s true i r st K=hS P (⟨none,i⟩::r) {st with t:=put s (.bool true) st.t} K:=by simp[pB]
theorem ZG{s:Nat}{i:ee}:pB P (.bool false) s false i r st K=hS P (⟨none,i⟩::r) {st with t:=put s (.bool false) st.t} K:=by simp[pB]
theorem ZJ{s:Nat}{i:ee}:pB P (.bool true) s false i r st K=hS P r {st with t:=eH i.dst (.tuple []) (put s (.bool true) st.t)} K:=by simp[pB]
theorem ZH{s:Nat}{i:ee}:pB P (.bool false) s true i r st K=hS P r {st with t:=eH i.dst (.tuple []) (put s (.bool false) st.t)} K:=by simp[pB]
theorem ZI{s:Nat}{w:Bool}{i:ee}:pB P (.tuple []) s w i r st K=hS P r {st with t:=eH i.dst (.tuple []) st.t} K:=by simp[pB]
theorem bQ{x:Bool}{s:Nat}{w:Bool}{i:ee}(J:x=w→hS P (⟨none,i⟩::r) {st with t:=put s (.bool w) st.t} K)(U:x= !w→hS P r {st with t:=eH i.dst (.tuple []) (put s (.bool !w) st.t)} K):pB P (.bool x) s w i r st K:=⟨J,U⟩
theorem Y1:cW P ob (.seq (.seq a b) c) Q st=cW P ob (.seq a (.seq b c)) Q st:=by simp only[cW];congr 1;funext e st';cases e<;>rfl
theorem Zm:cW P ob (.seq .skip c) Q st=cW P ob c Q st:=rfl
theorem Zk:cW P ob (.seq .ret c) Q st=Q .ret st:=rfl
theorem Za{n:Nat}:cW P ob (.seq (.exit n) c) Q st=Q (.exit n) st:=rfl
theorem Zn:cW P ob .skip Q st=Q .normal st:=rfl
theorem Zl:cW P ob .ret Q st=Q .ret st:=rfl
theorem Zb{n:Nat}:cW P ob (.exit n) Q st=Q (.exit n) st:=rfl
theorem Zi{gs:List c4}:cW P ob (.seq (.region gs) c) Q st=hS P gs st (yv P ob c Q):=rfl
theorem Zj{gs:List c4}:cW P ob (.region gs) Q st=hS P gs st (Q .normal):=rfl
theorem Y4{x:dn}:cW P ob (.seq (.cond x t e) c) Q st=tG P ob (cp st.t x) x (.seq t c) (.seq e c) Q st:=by simp only[cW,tG];try rfl
theorem Y5{x:dn}:cW P ob (.cond x t e) Q st=tG P ob (cp st.t x) x t e Q st:=by simp only[cW,tG];try rfl
theorem Zp{x:dn}:tG P ob (.bool true) x t e Q st=cW P ob t Q (rN st x true):=by simp[tG]
theorem Zo{x:dn}:tG P ob (.bool false) x t e Q st=cW P ob e Q (rN st x false):=by simp[tG]
theorem bL{v:Bool}{x:dn}(J:v=true→cW P ob t Q (rN st x true))(U:v=false→cW P ob e Q (rN st x false)):tG P ob (.bool v) x t e Q st:=⟨J,U⟩
def yq(P:cD)(ob:List aH)(id:Nat)(c:C)(Q:Exit→bq→Prop)(e:Exit)(st:bq):Prop:=
 match e with
 | .normal=>cW P ob c Q st
 | .exit j=>if j=id then cW P ob c Q st else Q (.exit j) st
 |e=>Q e st
theorem Y2{id:Nat}:cW P ob (.seq (.block id a) c) Q st=cW P ob a (yq P ob id c Q) st:=by
 simp only[cW];congr 1;funext e st';cases e with
 |exit j=>rfl
 |_=>rfl
theorem Y3{id:Nat}:cW P ob (.block id a) Q st=cW P ob a (yq P ob id .skip Q) st:=by
 simp only[cW];congr 1;funext e st';cases e with
 |exit j=>simp only[yq];by_cases af:j=id<;>simp[af,cW]
 |_=>rfl
theorem W2{id:Nat}:yq P ob id c Q .normal st=yv P ob c Q st:=rfl
theorem W1{id j:Nat}:yq P ob id c Q (.exit j) st=if j=id then yv P ob c Q st else Q (.exit j) st:=rfl
theorem W3{id:Nat}:yq P ob id c Q .ret st=Q .ret st:=rfl
def bO(ob:List aH)(gU:Nat→bq→Prop)(k:Nat)(Q:Exit→bq→Prop)(e:Exit)(st:bq):Prop:=
 match e with
 | .normal=> ∃bK ov,bK<k∧ix ob st ov∧gU bK ov
 |e=>Q e st
theorem Dx{gU:Nat→bq→Prop}{k:Nat}:bO ob gU k Q .normal st= ∃bK ov,bK<k∧ix ob st ov∧gU bK ov:=rfl
theorem W9{gU:Nat→bq→Prop}{k n:Nat}:bO ob gU k Q (.exit n) st=Q (.exit n) st:=rfl
theorem Xa{gU:Nat→bq→Prop}{k:Nat}:bO ob gU k Q .ret st=Q .ret st:=rfl
theorem oU(gU:Nat→bq→Prop)(m:Nat)(wi:bq)(hw:ix ob st wi)(bA:gU m wi)(h:∀k s,gU k s→(∀i,dZ (get i s.t))→(∀j cs,look j s.b=some cs→hP cs=true→eo cs)→cW P ob a (bO ob gU k Q) s):cW P ob (.loop a) Q st:=by
 simp only[cW];refine⟨gU,m,wi,hw,bA,fun k s J U ao=>?_⟩;have:=h k s J U ao;have br:(bO ob gU k Q)=(fun e ai=>match e with| .normal=> ∃bK ov,bK<k∧ix ob ai ov∧gU bK ov|e=>Q e ai):=by funext e ai;cases e<;>rfl
 rw[br]at this;exact this
end
/-Regions cQ draw lE order. -/
def LH(n0:Nat)(st:bq)(i:ei):Prop:=match eA (oQ n0 i) st.n (oQ n0 i::st.o) st i with|some (c,_)=>c|none=>eK
def LI(n0:Nat)(st:bq)(i:ei):bq:=match eA (oQ n0 i) st.n (oQ n0 i::st.o) st i with|some (_,s)=>s|none=>st
def G2(P:cD)(q:Bool)(nw:List Nat)(n0:Nat)(r:List c4)(K:bq→Prop)(st:bq):Prop:=hJ P q nw n0 r st K
def pA(P:cD)(q:Bool)(nw:List Nat)(n0:Nat)(v:ah)(s:Nat)(w:Bool)(i:ee)(r:List c4)(st:bq)(K:bq→Prop):Prop:=
 match v with
 | .bool b=>(b=w→hJ P q nw n0 (⟨none,i⟩::r) {st with t:=put s (.bool w) st.t} K)∧(b= !w→hJ P q nw n0 r {st with t:=eH i.dst (.tuple []) (put s (.bool !w) st.t)} K)
 | .tuple []=>hJ P q nw n0 r {st with t:=eH i.dst (.tuple []) st.t} K
 |_=>eK
def Ie(P:cD)(q:Bool)(nw:List Nat)(n0:Nat)(v:ah)(d:aY Nat)(xs:List ah)(r:List c4)(st:bq)(K:bq→Prop):Prop:=
 match v with
 | .func n dj=>hZ P q nw n (cZ (xs++dj)) st d (G2 P q nw n0 r K)
 |_=>eK
section
variable {P:cD} {ob:List aH} {st:bq} {K:bq→Prop} {r:List c4} {Q:Exit→bq→Prop} {c:C} {q:Bool} {nw:List Nat} {n0 N:Nat}
theorem Zt:hJ P q nw n0 [] st K=K st:=rfl
theorem Zu{i:ei}:hJ P q nw n0 (⟨none,.s i⟩::r) st K=(lL q nw n0 st i∧LH n0 st i∧hJ P q nw n0 r (LI n0 st i) K):=by
 simp only[hJ,kd,LH,LI];cases eA (oQ n0 i) st.n (oQ n0 i::st.o) st i with
 |none=>simp
 |some x=>rfl
theorem Zr{d:aY Nat}{f:dn}{xs:List dn}:hJ P q nw n0 (⟨none,.call d f xs⟩::r) st K=Ie P q nw n0 (cp st.t f) d (xs.map (cp st.t)) r st K:=by simp only[hJ,kd,Ie];rfl
theorem Zq{n:Nat}{dj:List ah}{d:aY Nat}{xs:List ah}:Ie P q nw n0 (.func n dj) d xs r st K=hZ P q nw n (cZ (xs++dj)) st d (G2 P q nw n0 r K):=rfl
theorem Zs{s:Nat}{w:Bool}{i:ee}:hJ P q nw n0 (⟨some (s,w),i⟩::r) st K=pA P q nw n0 (get s st.t) s w i r st K:=by simp only[hJ,pA];try rfl
theorem Zz{s:Nat}{i:ee}:pA P q nw n0 (.bool true) s true i r st K=hJ P q nw n0 (⟨none,i⟩::r) {st with t:=put s (.bool true) st.t} K:=by simp[pA]
theorem Zv{s:Nat}{i:ee}:pA P q nw n0 (.bool false) s false i r st K=hJ P q nw n0 (⟨none,i⟩::r) {st with t:=put s (.bool false) st.t} K:=by simp[pA]
theorem Zy{s:Nat}{i:ee}:pA P q nw n0 (.bool true) s false i r st K=hJ P q nw n0 r {st with t:=eH i.dst (.tuple []) (put s (.bool true) st.t)} K:=by simp[pA]
theorem Zw{s:Nat}{i:ee}:pA P q nw n0 (.bool false) s true i r st K=hJ P q nw n0 r {st with t:=eH i.dst (.tuple []) (put s (.bool false) st.t)} K:=by simp[pA]
theorem Zx{s:Nat}{w:Bool}{i:ee}:pA P q nw n0 (.tuple []) s w i r st K=hJ P q nw n0 r {st with t:=eH i.dst (.tuple []) st.t} K:=by simp[pA]
theorem bP{x:Bool}{s:Nat}{w:Bool}{i:ee}(J:x=w→hJ P q nw n0 (⟨none,i⟩::r) {st with t:=put s (.bool w) st.t} K)(U:x= !w→hJ P q nw n0 r {st with t:=eH i.dst (.tuple []) (put s (.bool !w) st.t)} K):pA P q nw n0 (.bool x) s w i r st K:=⟨J,U⟩
theorem Y6{gs:List c4}:cW P ob (.seq (.drawn q N gs) c) Q st=hJ P q [] st.n gs st (tk (st.n+N) st.o (yv P ob c Q)):=rfl
theorem Y7{gs:List c4}:cW P ob (.drawn q N gs) Q st=hJ P q [] st.n gs st (tk (st.n+N) st.o (Q .normal)):=rfl
theorem Y8{gs:List c4}:cW P ob (.seq (.drawnW nw N gs) c) Q st=((∀j∈nw,.obj j∉st.o)∧hJ P false nw st.n gs st (tk (st.n+N) (nw.map aH.obj++st.o) (yv P ob c Q))):=rfl
theorem Y9{gs:List c4}:cW P ob (.drawnW nw N gs) Q st=((∀j∈nw,.obj j∉st.o)∧hJ P false nw st.n gs st (tk (st.n+N) (nw.map aH.obj++st.o) (Q .normal))):=rfl
theorem hZ.val{n:Nat}{args:List ah}{d:aY Nat}{r:ah}(ab:aI (fun _=>eK) args)(aJ:bF P n args r)(h:K {st with t:=eH d r st.t}):hZ P q nw n args st d K:=by
 refine .inr ⟨⟨[],[]⟩,⟨[],[]⟩,r,none,fun k cs ab=>by simp[look]at ab,fun k cs ab=>by simp[look]at ab,xP,xP,⟨fun k h=>.inl h,fun k h=>.inl h,fun k h=>h,fun k h=>h,fun k h=>by cases h⟩,jM (fun _ h=>h.elim) _ ab,aJ,fun _=>⟨rfl,rfl⟩,?_⟩;have:({after st ⟨[],[]⟩ ⟨[],[]⟩ d r with o:=st.o}:bq)={st with t:=eH d r st.t}:=by simp[after,MD]
 rw[this];exact h
theorem aE{n:Nat}{args:List ah}{d:aY Nat}{r:ah}(aJ:bF P n args r)(h:K {st with t:=eH d r st.t})(ab:aI (fun _=>eK) args:=by simp):hZ P q nw n args st d K:=hZ.val ab aJ h
end
section
variable {k:IntKind} {n:Int} {b:Bool} {s:List dz} {sz:Nat} {tag:AQ} {xs:List ah} {key:aH} {off f:Nat} {x:ah}
@[simp] theorem aq0:eb (.int k n)=true:=rfl
@[simp] theorem aqM:eb (.bool b)=true:=rfl
@[simp] theorem ara:eb (.str s)=true:=rfl
@[simp] theorem aq9:eb (.slice sz tag xs)=true:=rfl
@[simp] theorem aqI:eb (.agg xs)=true:=rfl
@[simp] theorem aq7:eb (.ptr key off)=true:=rfl
@[simp] theorem aqW:eb (.eptr x)=true:=rfl
@[simp] theorem aqZ{t:Nat}:eb (.iface t x)=true:=rfl
@[simp] theorem am0{t:Nat}:cells (.iface t x)=[.iface t x]:=rfl
@[simp] theorem aqO{a:aY Addr}{n c:Nat}:eb (.cst (.slice a n c))=true:=rfl
@[simp] theorem aqP{s}:eb (.cst (.string s))=true:=rfl
@[simp] theorem aq6:eb .nilp=true:=rfl
@[simp] theorem aqX:eb (.func f xs)=true:=rfl
@[simp] theorem aqY:eb (.gmap key)=true:=rfl
@[simp] theorem aq8{n:Nat}:eb (.row sz key n)=true:=rfl
@[simp] theorem ana{n:Nat}:cells (.row sz key n)=[.row sz key n]:=rfl
@[simp] theorem am1:cells (.int k n)=[.int k n]:=rfl
@[simp] theorem amP:cells (.bool b)=[.bool b]:=rfl
@[simp] theorem anc:cells (.str s)=[.str s]:=rfl
@[simp] theorem anb:cells (.slice sz tag xs)=[.slice sz tag xs]:=rfl
@[simp] theorem amL:cells (.agg xs)=xs:=rfl
@[simp] theorem am9:cells (.ptr key off)=[.ptr key off]:=rfl
@[simp] theorem amX:cells (.eptr x)=[.eptr x]:=rfl
@[simp] theorem am8:cells .nilp=[.nilp]:=rfl
@[simp] theorem amY:cells (.func f xs)=[.func f xs]:=rfl
@[simp] theorem amZ:cells (.gmap key)=[.gmap key]:=rfl
end
section
variable {b:List (aH×List ah)} {e:List (aH×fK)} {agg:Bool} {sz off:Nat} {k:aH} {p:ah} {cs xs bc:List ah} {ff:IntKind} {n i:Int} {m j:Nat} {tag:AQ} {s:List dz} {Nj:Bool} {lo hi:aY ah}
@[simp] theorem apb{dF:Nat}{f:Nat}:mr b e agg sz (.rptr dF k m j f)=x7 agg sz dF m j f (look k e):=rfl
@[simp] theorem apa:mr b e agg sz (.ptr k off)=(match look k b with
  |some cs=>if agg then some (hP cs=true∧off+sz≤cs.length,.agg ((cs.drop off).take sz))else(cs[off]?).map fun p=>(hP cs=true,p)
  |none=>none):=rfl
@[simp] theorem ao9:mr b e agg sz (.eptr p)=if agg then some (isAgg sz p,p)else some (eb p=true∧cells p=[p],p):=rfl
@[simp] theorem anG:Bj agg sz (.eptr p)=if agg then some (isAgg sz p,p)else some (eb p=true∧cells p=[p],p):=rfl
@[simp] theorem anv{o:Nat}:pC off agg sz (.ptr k o)=some (True,.ptr k (o+off)):=rfl
@[simp] theorem anw{dF f:Nat}:pC off agg sz (.rptr dF k m j f)=some (True,.rptr dF k m j (f+off)):=rfl
@[simp] theorem ano:pC off agg sz (.eptr (.agg cs))=if agg then some (off+sz≤cs.length,.eptr (.agg ((cs.drop off).take sz)))else(cs[off]?).map fun p=>(eb p=true∧cells p=[p],.eptr p):=rfl
@[simp] theorem anz:q2 off agg sz (.agg cs)=if agg then some (off+sz≤cs.length,.agg ((cs.drop off).take sz))else(cs[off]?).map fun p=>(True,p):=rfl
@[simp] theorem aoa{dF:Nat}:zu sz (.slice dF tag xs) (.int ff i)=if dF=sz then some (0≤i∧i<xs.length,.eptr (xs.getD i.toNat .junk))else none:=rfl
@[simp] theorem an9{dF:Nat}:zu sz (.row dF k m) (.int ff i)=if dF=sz then some (0≤i∧i<m,.rptr dF k m i.toNat 0)else none:=rfl
@[simp] theorem ao8{dF:Nat}:zD (.slice dF tag xs)=some (True,.int .i64 xs.length):=rfl
@[simp] theorem ao7{dF:Nat}:zD (.row dF k m)=some (True,.int .i64 m):=rfl
@[simp] theorem ao6{a:aY Addr}{n c:Nat}:zD (.cst (.slice a n c))=some (True,.int .i64 n):=rfl
@[simp] theorem aqG{s}:C7 (.cst (.string s))=some (True,.int .i64 s.size):=rfl
@[simp] theorem aqH:C7 (.str s)=some (True,.int .i64 s.length):=rfl
@[simp] theorem ann:yM j (.tuple bc)=(bc[j]?).map fun p=>(True,p):=rfl
@[simp] theorem apC:zN (.ptr k off)=some (True,.ptr k off):=rfl
@[simp] theorem apA:zN (.eptr p)=some (True,.eptr p):=rfl
@[simp] theorem apB:zN (.func j cs)=some (True,.func j cs):=rfl
@[simp] theorem apD:FJ (.bool Nj)=some (True,.bool (!Nj)):=rfl
@[simp] theorem aqF:Gy (.str s) (.int ff i)=some (0≤i∧i<s.length,.int .u8 (s.getD i.toNat 0).toNat):=rfl
@[simp] theorem arc:GD (.str s) lo hi=(match qA 0 lo,qA s.length hi with
  |some l,some h=>some (0≤l∧l≤h∧h≤s.length,.str ((s.take h.toNat).drop l.toNat))
  |_,_=>none):=rfl
@[simp] theorem apc{dF:Nat}:Fw sz (.slice dF tag xs) lo hi=(if dF=sz then match qA 0 lo,qA xs.length hi with
  |some l,some h=>some (0≤l∧l≤h∧h≤xs.length,.slice sz .no ((xs.take h.toNat).drop l.toNat))
  |_,_=>none else none):=rfl
theorem TB{f:aH→aY (List ah)}{cd:jo}{z q:ah}{ok:Bool}:nF f cd z ok (.gmap k) q=(match f k with
  |some (.hdm _ _::kvs)=>if uf cd q=false then none else match vP cd q kvs with
   |some (some v)=>some (True,if ok then .tuple [v,.bool true]else v)
   |some none=>some (True,if ok then .tuple [z,.bool false]else z)
   |none=>none
  |_=>none):=rfl
theorem af6{f:aH→aY (List ah)}:uv f (.gmap k)=(match f k with
  |some (.hdm _ borns::_)=>some (True,.int .i64 borns.length)
  |_=>none):=rfl
theorem Ty{f:aH→aY (List ah)}:o6 f (.ptr k 0)=(match f k with
  |some [.hdi _ seen last,.gmap mk]=>match f mk with
   |some (.hdm clock borns::kvs)=>match seen.getLast? with
    |some n=>(mu n borns kvs).map fun p=>(clock=last,p)
    |none=>none
   |_=>none
  |_=>none):=rfl
@[simp] theorem aqC{dF f n' el jb:Nat}:x7 agg sz dF m j f (some ⟨n',el,jb,some xs⟩)=(if n'=m∧jb=dF then
   (match xs[j]? with
    |some p=>if agg then some (eb p=true∧f+sz≤(cells p).length,.agg (((cells p).drop f).take sz))else((cells p)[f]?).map fun q=>(eb p=true,q)
    |none=>none)else none):=rfl
end
attribute [simp] Y1 Zi Y2 Y4 Zm Zk Za Zn Zl Zb Zj Y3 Y5 yv W2 W1 W3 W9 Xa ZE ZF ZB ZA ZC
 ZK ZG ZJ ZH ZI Zp Zo LJ LK lW hb j6 cp get put jD pO mZ na cA qA AW E7 GG nI tC FV FF D9 FE
 look eH ei.dst ee.dst rN DA sd cZ dq aB aI
 Y6 Y7 Y8 Y9 Zt Zu Zr Zq Zs Zz Zv Zy Zw Zx LH LI eA oQ lL wZ fM.loadO tk G2 xB hP se ZD Zg Zh Zc Zd Ze Zf vc ID si yR Xe vZ CN vY qG mw ic FA
theorem aD{P:cD}{n:Nat}{args:List ah}{st:bq}{d:aY Nat}{K:bq→Prop}{r:ah}(aJ:bF P n args r)(h:K {st with t:=eH d r st.t})(ab:aI (fun _=>eK) args:=by simp):c6 P n args st d K:=c6.val ab aJ h
theorem aj{a b:Prop}(ad:b)(bt:a:=by first|omega|(unfold sH;omega)|(unfold lim;omega)):a∧b:=⟨bt,ad⟩
theorem cq{p:Prop}(h:eK:=by first|contradiction|omega):p:=h.elim
theorem b5{p:Prop}(h:p:=by(try simp[*]);(repeat' first|with_reducible refine aj ?_|with_reducible refine aD (by assumption) ?_|with_reducible refine aE (by assumption) ?_|simp[*]);(all_goals first|done|(simp[bz,aW,aX,aV, *];done))):p:=h
end Go.Pv
namespace Go.Pv
open Go Go.RowKit
structure ed (s:cK):Prop where
 obj:iI s
 kb:∀k cs,look k s.b=some cs→aI (inObs s) cs
 ke:∀k o,look k s.e=some o→dW (inObs s) o
structure Same (s ai:cK):Prop where
 b:∀k,(look k s.b).isSome=(look k ai.b).isSome
 e:∀k,(look k s.e).isSome=(look k ai.e).isSome
theorem Same.refl(s:cK):Same s s:=⟨fun _=>rfl,fun _=>rfl⟩
theorem Same.inObs{s ai:cK}(h:Same s ai)(k:aH):inObs s k↔inObs ai k:=by unfold Pv.inObs;rw[h.b,h.e]
theorem uq{α:Type}{k:aH}{x:α}:∀{l:List (aH×α)},(k,x)∈l→(look k l).isSome
 |(i,y)::r,h=>by
  simp only[look];split
  ·rfl
  ·rename_i cF;rcases fY.1 h with h|h
   ·cases h;exact absurd rfl cF
   ·exact uq h
theorem Sf{s:cK}{k:aH}(h:k∈cV s):inObs s k:=by
 unfold cV at h;rcases ky.1 h with h|h
 ·obtain⟨⟨bK,x⟩,J,rfl⟩:=iP.1 h;exact .inl (uq J)
 ·obtain⟨⟨bK,x⟩,J,rfl⟩:=iP.1 h;exact .inr (uq J)
theorem jO{s:cK}(h:iI s)(m:Nat):aH.loc m∉cV s:=fun hm=>by
 rcases Sf hm with J|J
 ·rw[h.1 m]at J;cases J
 ·rw[h.2 m]at J;cases J
theorem im{α β:Type}(s:List (aH×β)):∀(a b:List (aH×α)),cz s (a++b)=cz s a++cz s b
 |[],b=>rfl
 |(k,x)::r,b=>by
  simp only[bV,cz];cases look k s with
  |none=>simp[im s r b]
  |some _=>exact im s r b
theorem ME{α β:Type}(s:List (aH×β)):∀(l:List (aH×α)),(∀k x,(k,x)∈l→(look k s).isSome)→cz s l=[]
 |[],_=>rfl
 |(k,x)::r,h=>by
  have J:=h k x (by simp);simp only[cz];cases av:look k s with
  |none=>rw[av]at J;cases J
  |some _=>exact ME s r fun k x ae=>h k x (by simp[ae])
theorem gR{α:Type}(s:List (aH×α)):cz s s=[]:=ME s s fun k x h=>uq h
theorem jT{α:Type}{k:aH}{x:α}:∀{l:List (aH×α)},look k l=none→cA k x l=l++[(k,x)]
 |[],_=>rfl
 |(i,y)::r,h=>by
  simp only[look]at h;split at h
  ·cases h
  ·rename_i cF;simp[cA,cF,jT h]
theorem cJ{α:Type}(k:aH):∀(a b:List (aH×α)),look k (a++b)=match look k a with|some x=>some x|none=>look k b
 |[],b=>rfl
 |(i,y)::r,b=>by
  simp only[bV,look];split
  ·rfl
  ·exact cJ k r b
theorem c6.ob{P:cD}{n:Nat}{args:List ah}{st:bq}{d:aY Nat}{K:bq→Prop}{s:cK}{Q:ah→cK→Prop}(aJ:bN P n args s Q)(ag:ed s)(ad:∀k cs,look k s.b=some cs→look k st.b=some cs)(he:∀k o,look k s.e=some o→look k st.e=some o)
  (ab:aI (inObs s) args) (h:∀r ai,Q r ai→Same s ai∧K ⟨eH d r st.t,cz s.b st.b++ai.b,cz s.e st.e++ai.e,st.n,st.o++cV ai⟩):c6 P n args st d K:=by
 refine .inl ⟨s,Q,fun k cs au=>⟨ad k cs au,.inl (by simp[au]),ag.kb k cs au⟩,fun k o ax=>⟨he k o ax,.inr (by simp[ax]),ag.ke k o ax⟩,ag.obj,ab,aJ,fun r ai br=>?_⟩;obtain⟨J,U⟩:=h r ai br;exact⟨⟨fun m hm=>.inl (by rw[J.b];exact hm),fun m hm=>.inl (by rw[J.e];exact hm)⟩,U⟩
theorem cT.ob{fc:List bu}{s ai:cK}{Q:ah→cK→Prop}{e:Exit}{st:bq}{c:Prop}{cv:List ah}(tP:e= .ret∨e= .normal)(xt:aW st fc=some (c,cv))(au:c)(ag:ed ai)(e6:Same s ai)(ad:∀k cs,look k ai.b=some cs→look k st.b=some cs)(dv:∀k o,look k ai.e=some o→look k st.e=some o)
  (ab:aB (inObs ai) (dq (aV cv))) (br:Q (dq (aV cv)) ai):cT fc s Q e st:=by
 refine⟨tP,?_⟩;rw[xt];have Rx:∀{α:Type} (l:List (aH×α)),(∀k x,(k,x)∈l→inObs ai k)→lU ai l:=by
  intro α l;induction l with
  |nil=>intro _;trivial
  |cons x r bU=>obtain⟨k,x⟩:=x;intro h;exact⟨h k x (by simp),bU fun k x ae=>h k x (by simp[ae])⟩
 exact⟨au,ai,Rx _ fun k x ae=>.inl (by rw[←e6.b];exact uq ae),Rx _ fun k x ae=>.inr (by rw[←e6.e];exact uq ae),fun k cs dm=>⟨ad k cs dm,.inl (by simp[dm]),ag.kb k cs dm⟩,fun k o ax=>⟨dv k o ax,.inr (by simp[ax]),ag.ke k o ax⟩,ag.obj,ab,br⟩
theorem bN.mono{P:cD}{f:FuncId}{args:List ah}{s:cK}{Q qa:ah→cK→Prop}(h:bN P f args s Q)(br:∀r ai,Q r ai→qa r ai):bN P f args s qa:=by
 intro w ν bc J U ao;have hm:∀(e:Ending) (w':World),(∃v r ai bo,e= .returned v∧Q r ai∧a8 w' bo r v∧Good (fun bl=>fw ν s bl∨w.heap.size≤bl) w' bo ai.b ai.e∧oV bo ai∧iI ai∧p8 ⟨w,ν,fw ν s,0,cV s⟩ w' bo)→(∃v r ai bo,e= .returned v∧qa r ai∧a8 w' bo r v∧Good (fun bl=>fw ν s bl∨w.heap.size≤bl) w' bo ai.b ai.e∧oV bo ai∧iI ai∧p8 ⟨w,ν,fw ν s,0,cV s⟩ w' bo):=by rintro e w' ⟨v,r,ai,bo,bC,a2,a3⟩;exact⟨v,r,ai,bo,bC,br _ _ a2,a3⟩
 rcases h w ν bc J U ao with⟨qp,au⟩|⟨v,w',au,aK⟩
 ·exact .inl ⟨qp,au.mono hm⟩
 ·exact .inr ⟨v,w',au,hm _ _ aK⟩
theorem Cx{s:cK}{k:aH}(h:inObs s k):¬fresh 0 (cV s) k:=fun aJ=>aJ.2 (sT h)
theorem ix.ob{s:cK}(ag:ed s){st:bq}{dJ:List (Nat×ah)}(aO:∀x∈dJ,get x.1 st.t=x.2∧aB (inObs s) x.2)(ad:∀k cs,look k s.b=some cs→look k st.b=some cs)(he:∀k o,look k s.e=some o→look k st.e=some o):
  ix (cV s) st ⟨dJ,s.b,s.e,0,cV s⟩:=
 ⟨fun x ae=>⟨(aO x ae).1,vJ (fun k ab=>Cx ab) _ (aO x ae).2⟩,fun k cs au=>⟨ad k cs au,Cx (.inl (by simp[au])),jM (fun k ab=>Cx ab) _ (ag.kb k cs au)⟩,
  fun k o ax=>⟨he k o ax,Cx (.inr (by simp[ax])),fun xs ae=>jM (fun k ab=>Cx ab) _ (ag.ke k o ax xs ae)⟩,fun m hm=>hm⟩
def cY(st:bq)(fc:List bu)(R:ah→Prop):Prop:=match aW st fc with
 |some (c,cv)=>c∧R (dq (aV cv))
 |none=>eK
theorem cT.at{fc:List bu}{s:cK}{Q:ah→cK→Prop}{e:Exit}{st:bq}(ai:cK)(tP:e= .ret∨e= .normal)(ag:ed ai)(e6:Same s ai)(ad:∀k cs,look k ai.b=some cs→look k st.b=some cs)(dv:∀k o,look k ai.e=some o→look k st.e=some o)
  (h:cY st fc fun r=>aB (inObs ai) r∧Q r ai):cT fc s Q e st:=by
 unfold cY at h;split at h
 ·rename_i c cv aK;exact cT.ob tP aK h.1 ag e6 ad dv h.2.1 h.2.2
 ·exact h.elim
theorem hZ.ob{P:cD}{nw:List Nat}{n:Nat}{args:List ah}{st:bq}{d:aY Nat}{K:bq→Prop}{s ai:cK}{r:ah}(aJ:bN P n args s fun eC dJ=>eC=r∧dJ=ai)(ag:ed s)(gb:ed ai)(e6:Same s ai)(ad:∀k cs,look k s.b=some cs→look k st.b=some cs)(he:∀k o,look k s.e=some o→look k st.e=some o)
  (ab:aI (inObs s) args) (h:K ⟨eH d r st.t,cz s.b st.b++ai.b,cz s.e st.e++ai.e,st.n,st.o⟩):hZ P false nw n args st d K:=
 .inr ⟨s,ai,r,none,fun k cs au=>⟨ad k cs au,.inl (by simp[au]),ag.kb k cs au⟩,fun k o ax=>⟨he k o ax,.inr (by simp[ax]),ag.ke k o ax⟩,ag.obj,gb.obj,⟨fun k ab=>.inl (by rw[e6.b];exact ab),fun k ab=>.inl (by rw[e6.e];exact ab),fun k ab=>by rw[←e6.b];exact ab,fun k ab=>by rw[←e6.e];exact ab,fun k ab=>by cases ab⟩,ab,aJ,(fun e=>by cases e),h⟩
theorem ed.of{s:cK}(ax:iI s)(ad:∀x∈s.b,aI (inObs s) x.2)(he:∀x∈s.e,∀xs,x.2.xs=some xs→aI (inObs s) xs):ed s:=⟨ax,fun k cs ab=>ad (k,cs) (sO ab),fun k o ab xs ae=>he (k,o) (sO ab) xs ae⟩
@[simp] theorem apE(b:List (aH×List ah))(e:List (aH×fK)):cV ⟨b,e⟩=b.map (·.1)++e.map (·.1):=rfl
theorem AB{α:Type}{k:aH}{p:α}:∀{a r:List (aH×α)},look k a=none→cA k p (a++r)=a++cA k p r
 |[],_,_=>rfl
 |(i,y)::a,r,h=>by
  simp only[look]at h;split at h
  ·cases h
  ·rename_i cF;simp[cA,cF,AB h]
theorem afp{α:Type}{s b:List (aH×α)}(h:∀p∈s,look p.1 b=some p.2):∀k x,look k s=some x→look k b=some x:=fun k x ae=>h (k,x) (sO ae)
theorem er{S:aH→Prop}{b1 b:List (aH×List ah)}(h:∀p∈b1,look p.1 b=some p.2∧S p.1∧aI S p.2):gC S b1 b:=fun k x ae=>h (k,x) (sO ae)
theorem et{S:aH→Prop}{b1 b:List (aH×fK)}(h:∀p∈b1,look p.1 b=some p.2∧S p.1∧dW S p.2):oz S b1 b:=fun k x ae=>h (k,x) (sO ae)
theorem aR{α:Type}{s b:List (aH×α)}(h:∀k x,look k s=some x→look k b=some x:=by first|(refine afp ?_;simp;done)|(intro k x ae;first|exact ae|(simp[ae,gR];done)|(simp[cJ,gR,ae];done)|(cases k<;>simp_all[cJ];done))):∀k x,look k s=some x→look k b=some x:=h
theorem bW{ob:List aH}{st st':bq}(J:∀x∈st'.t,get x.1 st.t=x.2∧aB (fun k=> ¬fresh st'.n st'.o k) x.2:=by simp[fresh,aI,aB,cn,inObs,Pv.look])(U:∀p∈st'.b,look p.1 st.b=some p.2∧(¬fresh st'.n st'.o p.1)∧aI (fun k=> ¬fresh st'.n st'.o k) p.2:=by simp[fresh,aI,aB,cn,inObs,Pv.look])(ao:∀p∈st'.e,look p.1 st.e=some p.2∧(¬fresh st'.n st'.o p.1)∧dW (fun k=> ¬fresh st'.n st'.o k) p.2:=by simp[fresh,aI,aB,dW,inObs,Pv.look])(ba:∀m∈ob,m∈st'.o:=by simp):ix ob st st':=⟨J,er U,et ao,ba⟩
theorem bO.next{ob:List aH}{gU:Nat→bq→Prop}{k:Nat}{Q:Exit→bq→Prop}{st:bq}(bK:Nat){ai:bq}(ab:bK<k)(hi:gU bK ai)(hw:ix ob st ai):bO ob gU k Q .normal st:=⟨bK,ai,ab,hw,hi⟩
def kf:List (Int×ah)→List ah
 |[]=>[]
 |(k,v)::r=>.int .i64 k::v::kf r
def jC(l:List (Int×ah)):List ah:= .hdm l.length (List.range l.length)::kf l
def wK(k:Int):List (Int×ah)→aY ah
 |[]=>none
 |(i,v)::r=>if k=i then some v else wK k r
def oM(k:Int)(v:ah):List (Int×ah)→aY (List (Int×ah))
 |[]=>none
 |(i,w)::r=>if k=i then some ((k,v)::r)else match oM k v r with|some eC=>some ((i,w)::eC)|none=>none
def DK(k:Int)(v:ah)(l:List (Int×ah)):List (Int×ah):=match oM k v l with|some aZ=>aZ|none=>l++[(k,v)]
@[simp] theorem apm:[ah.hdm 0 []]=jC []:=rfl
theorem Qy:∀a b,kf (a++b)=kf a++kf b
 |[],_=>rfl
 |(k,v)::r,b=>by simp[kf,Qy r b]
theorem Tz(k:Int):∀l,vP .i (.int .i64 k) (kf l)=some (wK k l)
 |[]=>rfl
 |(i,v)::r=>by
  simp only[kf,vP,sL,wK];by_cases h:k=i
  ·simp[h]
  ·have:(k==i)=false:=by simp[h]
   simp[h,Tz k r,this]
theorem Nb{k:Int}{v:ah}:∀{l aZ},oM k v l=some aZ→aZ.length=l.length
 |[],_,h=>by simp[oM]at h
 |(i,w)::r,aZ,h=>by
  simp only[oM]at h;split at h
  ·cases h;rfl
  ·split at h
   ·rename_i eC aK;cases h;simp[Nb aK]
   ·cases h
theorem TL(k:Int)(v:ah):∀l,uw .i (.int .i64 k) v (kf l)=some ((oM k v l).map kf)
 |[]=>rfl
 |(i,w)::r=>by
  simp only[kf,uw,sL,oM];by_cases h:k=i
  ·subst h;simp[kf]
  ·simp only[and_self,if_true,h,if_false,dO,TL k v r];have:(k==i)=false:=by simp[h]
   rw[this];cases oM k v r<;>simp[kf]
@[simp] theorem TK(k:Int)(v:ah)(l:List (Int×ah)):oq .i (.int .i64 k) v (jC l)=some (jC (DK k v l)):=by
 simp only[jC,oq,SJ,Bool.true_eq_false,reduceCtorEq,if_false,TL,DK];cases h:oM k v l with
 |some aZ=>simp[Nb h]
 |none=>simp[Qy,kf,List.range_succ]
@[simp] theorem afP(f:aH→aY (List ah))(m:aH)(l:List (Int×ah))(z:ah)(ok:Bool)(k:Int)(hm:f m=some (jC l)):nF f .i z ok (.gmap m) (.int .i64 k)=(match wK k l with
  |some v=>some (True,if ok then .tuple [v,.bool true]else v)
  |none=>some (True,if ok then .tuple [z,.bool false]else z)):=by
 simp only[TB,hm,jC,SJ,Bool.true_eq_false,reduceCtorEq,if_false,Tz];cases wK k l<;>rfl
@[simp] theorem af7(f:aH→aY (List ah))(m:aH)(l:List (Int×ah))(hm:f m=some (jC l)):uv f (.gmap m)=some (True,.int .i64 l.length):=by simp[af6,hm,jC]
def cn(n:Nat)(seen:List Nat)(m:aH):List ah:=[.hdi n seen n,.gmap m]
@[simp] theorem aqB(m:aH)(l:List (Int×ah)):wb m (jC l)=some (cn l.length [] m):=rfl
@[simp] theorem apN(l:List (Int×ah)):hP (jC l)=false:=rfl
theorem Kk(b:Nat):∀(n:Nat) (l:List (Int×ah)),mu b (List.range' n l.length) (kf l)=(if n≤b then(l[b-n]?).map fun x=>.tuple [.int .i64 x.1,x.2]else none)
 |n,[]=>by simp[mu,kf]
 |n,(k,v)::r=>by
  simp only[p6,List.range'_succ,kf,mu];by_cases h:n=b
  ·subst h;simp
  ·rw[if_neg h,Kk b (n+1) r];by_cases U:n≤b
   ·rw[if_pos U,if_pos (by omega)];have:b-n=(b-(n+1))+1:=by omega
    rw[this];simp
   ·rw[if_neg U,if_neg (by omega)]
@[simp] theorem Tx(f:aH→aY (List ah))(ff mk:aH)(n:Nat)(seen:List Nat)(b:Nat)(l:List (Int×ah))(hi:f ff=some (cn n (seen++[b]) mk))(hm:f mk=some (jC l))(aA:n=l.length):o6 f (.ptr ff 0)=(l[b]?).map fun x=>(True,.tuple [.int .i64 x.1,x.2]):=by subst aA;simp only[Ty,hi,hm,cn,jC,List.getLast?_append,List.getLast?_singleton,Option.some_or,List.range_eq_range',Kk,Nat.zero_le,if_true,Nat.sub_zero,Option.map_map];cases l[b]?<;>simp
theorem P7{st:bq}{d:Nat}{K:bq→Prop}{ff mk:aH}{n:Nat}{seen:List Nat}{l:List (Int×ah)}(hi:look ff st.b=some (cn n seen mk))(hm:look mk st.b=some (jC l))(aA:n=l.length)
  (J:(∀b,b<n→b∈seen)→K {st with t:=put d (.tuple [.bool false]) st.t}) (U:∀b k v,l[b]? =some (k,v)→b∉seen→K {st with t:=put d (.tuple [.bool true,.int .i64 k,v]) st.t,b:=cA ff (cn n (seen++[b]) mk) st.b}):
  sl st d (.ptr ff 0) K:=by
 subst aA;simp only[sl,hi,cn,hm,jC,Ky,and_self,true_and];refine⟨fun h=>J fun b ad=>h b (by simpa using ad),fun b k v xo ad=>?_⟩;rw[List.range_eq_range',Kk]at xo;simp only[Nat.zero_le,if_true,Nat.sub_zero,gJ,ah.tuple.injEq,p4,and_true]at xo;obtain⟨⟨bK,v'⟩,ak,aC,bk⟩:=xo;simp only at aC bk;subst aC bk;exact U b bK v' ak ad
theorem air{n:Nat}{seen:List Nat}(aP:seen.Nodup)(bD:∀b∈seen,b<n)(ld:∀b,b<n→b∈seen):seen.Perm (List.range n):=(List.perm_ext_iff_of_nodup aP List.nodup_range).2 fun b=>⟨fun h=>by simpa using bD b h,fun h=>ld b (by simpa using h)⟩
theorem Gv{n:Nat}{seen:List Nat}(aP:seen.Nodup)(bD:∀b∈seen,b<n):seen.length≤n:=by have:=MK aP (l₂:=List.range n) (fun b ad=>by simpa using bD b ad);simpa using this
theorem LO{n b:Nat}{seen:List Nat}(aP:seen.Nodup)(bD:∀b∈seen,b<n)(ad:b<n)(aA:b∉seen):seen.length<n:=by have J:(b::seen).Nodup:=List.nodup_cons.2 ⟨aA,aP⟩;have:=Gv J (n:=n) (by simp;exact⟨ad,bD⟩);simp at this;omega
theorem Va{α:Type}:∀(l pre:List α),(List.range' pre.length l.length).filterMap (fun b=>(pre++l)[b]?)=l
 |[],_=>rfl
 |x::r,pre=>by have bU:=Va r (pre++[x]);simp only[pf,List.length_singleton,List.append_assoc,List.singleton_append]at bU;simp[List.range'_succ,bU]
theorem LN{α:Type}{l:List α}{seen:List Nat}(aP:seen.Nodup)(bD:∀b∈seen,b<l.length)(ld:∀b,b<l.length→b∈seen):(seen.filterMap fun b=>l[b]?).Perm l:=by have J:=(air aP bD ld).filterMap fun b=>l[b]?;have U:=Va l [];simp only[List.length_nil,bY,←List.range_eq_range']at U;rwa[U]at J
theorem KC{b:Nat}{seen:List Nat}(aP:seen.Nodup)(aA:b∉seen):(seen++[b]).Nodup:=by rw[List.nodup_append];exact⟨aP,by simp,by simp;intro a bt e;subst e;exact aA bt⟩
theorem cS.start{w:World}{ν:bd}{s:cK}{args:List ah}{bc:Array Value}(o3:iI s)(a1:Good (fw ν s) w ν s.b s.e)(ae:oV ν s)(aK:cP w ν args bc.toList):
  cS ⟨w,ν,fw ν s,bc.size,cV s⟩ ⟨j6 0 args,s.b,s.e,0,cV s⟩ {tmps:=bc,defers:=[]} w ν:=by
 have iT:=CY aK;have kG:bc.size=args.length:=by simpa using iT
 have n9:∀k,fresh 0 (cV s) k→ν.bx k=none∧ν.ow k=none∧∀j b,¬ν.tr k j b:=by
  intro k ab;cases k with
  |loc m=>exact⟨(ae _).1 (o3.1 m),(ae _).2.1 (o3.2 m),(ae _).2.2⟩
  |obj m=>
   simp only[fresh,true_and]at ab;refine⟨?_,?_,(ae _).2.2⟩
   ·refine(ae _).1 ?_;cases h:look (.obj m) s.b with
    |none=>rfl
    |some x=>exact absurd (sT (.inl (by simp[h]))) ab
   ·refine(ae _).2.1 ?_;cases h:look (.obj m) s.e with
    |none=>rfl
    |some x=>exact absurd (sT (.inr (by simp[h]))) ab
 have jg:∀m,(ν.bx (.obj m)≠none∨ν.ow (.obj m)≠none)→ .obj m∈cV s:=by
  intro m hm;refine Classical.byContradiction fun au=>?_;obtain⟨J,U,_⟩:=n9 (.obj m) ⟨trivial,au⟩;rcases hm with hm|hm
  ·exact hm J
  ·exact hm U
 refine⟨⟨a1.alt,fun k cs ab=>?_,a1.inj,fun g o dU=>?_,a1.oinj,a1.obx,a1.one,a1.otr⟩,⟨rfl,rfl,rfl,eR _,fun _ _ _=>rfl,fun b o h=>⟨h,rfl⟩,fun b o h=>.inl h,fun n b h=>h,fun n b h=>jg n (.inl (by rw[h];simp)),fun m n u h=>⟨n,u,h,.inl ⟨rfl,rfl⟩⟩,fun m n u h=>jg m (.inr (by rw[h];simp)),fun k j _ _ b h=>absurd h ((ae k).2.2 j b),fun k j b h=>absurd h ((ae k).2.2 j b),fun k j b h=>absurd h ((ae k).2.2 j b),fun _ _ _=>rfl⟩,rfl,rfl,fun i=>?_,n9⟩
 ·obtain⟨bl,us,el,g1,g2,g3⟩:=a1.box k cs ab;exact⟨bl,us,el,g1,.inl g2,g3⟩
 ·obtain⟨v,us,g1,g2,g3,g4⟩:=a1.own g o dU;exact⟨v,us,g1,g2,fun bl e5=>⟨.inl (g3 bl e5).1,(g3 bl e5).2⟩,g4⟩
 ·rw[IN];by_cases hi:i<args.length
  ·rw[if_pos (by omega)];have tU:args[i]? =some args[i]:=cf hi;obtain⟨v,ak,aC⟩:=Gm i aK tU;have H5:bc[i]? =some v:=by simpa using ak
   show a8 w ν _ (bc.getD i undef);rw[Array.getD_eq_getD_getElem?,H5];simpa[List.getD,tU]using aC
  ·rw[if_neg (by omega)];simp[a8]
theorem bN.sem{P:cD}{f:FuncId}{args:List ah}{s:cK}{Q:ah→cK→Prop}(o3:iI s)
  (h:∀(w:World) (ν:bd) (bc:Array Value),bc.size=args.length→cS ⟨w,ν,fw ν s,bc.size,cV s⟩ ⟨j6 0 args,s.b,s.e,0,cV s⟩ {tmps:=bc,defers:=[]} w ν→
   wA P f bc w fun e w'=> ∃v st' bn bo r ai,e= .returned v∧cS ⟨w,ν,fw ν s,bc.size,cV s⟩ st' bn w' bo∧a8 w' bo r v∧lU ai s.b∧lU ai s.e∧gC (inObs ai) ai.b st'.b∧oz (inObs ai) ai.e st'.e∧iI ai∧aB (inObs ai) r∧Q r ai):bN P f args s Q:=by
 intro w ν bc a1 ae aK;have kG:bc.size=args.length:=by simpa using CY aK
 have pH:=cS.start o3 a1 ae aK;have hm:∀(e:Ending) (w':World),(∃v st' bn bo r ai,e= .returned v∧cS ⟨w,ν,fw ν s,bc.size,cV s⟩ st' bn w' bo∧a8 w' bo r v∧lU ai s.b∧lU ai s.e∧gC (inObs ai) ai.b st'.b∧oz (inObs ai) ai.e st'.e∧iI ai∧aB (inObs ai) r∧Q r ai)→
   ∃v r ai bo,e= .returned v∧Q r ai∧a8 w' bo r v∧Good (fun bl=>fw ν s bl∨w.heap.size≤bl) w' bo ai.b ai.e∧oV bo ai∧iI ai∧p8 ⟨w,ν,fw ν s,0,cV s⟩ w' bo:=by
  rintro e w' ⟨v,st',bn,bo,r,ai,rfl,dD,ot,kb,ke,a6,bE,bX,cX,c8⟩;refine⟨v,r,ai,bo.cut (inObs ai),rfl,c8,uI (oK.cut _ w' bo) _ _ cX ot,dD.good.cut a6 bE (fun bl h _=>h),?_,bX,?_⟩
  ·intro k;refine⟨?_,?_,?_⟩;rotate_left 2
   ·rintro j b ⟨ag,ad⟩;obtain⟨t1,t2⟩:=dD.fr.trn k j b ad;rcases ag with ag|ag<;>obtain⟨x,h6⟩:=fJ.1 ag
    ·obtain⟨bl,ck,el,ak,_⟩:=dD.good.box k x (a6 k x h6).1;rw[t1]at ak;cases ak
    ·obtain⟨v',ck,ak,_⟩:=dD.good.own k x (bE k x h6).1;rw[t2]at ak;cases ak
   ·intro ab;by_cases ag:inObs ai k
    ·rw[bd.cut_bx ag];rcases ag with ag|ag
     ·rw[ab]at ag;cases ag
     ·obtain⟨x,h6⟩:=fJ.1 ag;obtain⟨v',ck,ak,_⟩:=dD.good.own k x (bE k x h6).1;rcases dD.good.one k with J|J
      ·exact J
      ·rw[J]at ak;cases ak
    ·exact(bd.cut_no ag).1
   ·intro ab;by_cases ag:inObs ai k
    ·rw[bd.cut_ow ag];rcases ag with ag|ag
     ·obtain⟨x,h6⟩:=fJ.1 ag;obtain⟨bl,ck,el,ak,_⟩:=dD.good.box k x (a6 k x h6).1;rcases dD.good.one k with J|J
      ·rw[J]at ak;cases ak
      ·exact J
     ·rw[ab]at ag;cases ag
    ·exact(bd.cut_no ag).2.1
  ·refine⟨dD.fr.os,dD.fr.tape,dD.fr.output,dD.fr.size,dD.fr.block,dD.fr.keep,dD.fr.fresh,fun n b h=>?_,dD.fr.obn,fun m n u h=>?_,dD.fr.obr,fun k j bK dx b J U=>dD.fr.trd k j bK dx b J.2 U.2,fun k j b ad=>dD.fr.trb k j b ad.2,fun k j b ad=>(by rw[bd.cut_bx ad.1,bd.cut_ow ad.1];exact dD.fr.trn k j b ad.2),dD.fr.sh⟩
   ·have ag:inObs ai (.obj n):=by
     cases av:look (.obj n) s.b with
     |none=>rw[(ae _).1 av]at h;cases h
     |some x=>exact zz kb _ (by simp[av])
    rw[bd.cut_bx ag];exact dD.fr.obj n b h
   ·have ag:inObs ai (.obj m):=by
     cases av:look (.obj m) s.e with
     |none=>rw[(ae _).2.1 av]at h;cases h
     |some x=>exact zz ke _ (by simp[av])
    rw[bd.cut_ow ag];exact dD.fr.row m n u h
 rcases h w ν bc kG pH with⟨qp,au⟩|⟨v,w',au,xt⟩
 ·exact .inl ⟨qp,au.mono hm⟩
 ·exact .inr ⟨v,w',au,hm _ _ xt⟩
theorem cS.grown{C:e9}{st:bq}{a:Act}{w w':World}{ν:bd}(h:cS C st a w ν)(a1:w.grownBy w' none):cS C st a w' ν:=by
 have kF:k8 w ν w' ν:=⟨fun b o bg=>⟨bg,D7 a1 (h.good.alt b o bg)⟩,fun _ _ _ h=>h,fun _ n u _ h=>⟨n,u,h,.inl ⟨rfl,rfl⟩⟩,fun b o bg=>wh (a1.block b (h.good.alt b o bg) (by simp)),fun _ _ _ _ h=>h⟩;refine h.over kF rfl ⟨fun b o bg=>Nat.lt_of_lt_of_le (h.good.alt b o bg) a1.size,fun k cs ab=>?_,h.good.inj,fun g o dU=>?_,h.good.oinj,h.good.obx,h.good.one,h.good.otr⟩
  ⟨a1.os.trans h.fr.os,a1.tape.trans h.fr.tape,a1.output.trans h.fr.output,j8 h.fr.size a1.size,fun k ab hm=>?_,fun b o bg=>?_,h.fr.fresh,h.fr.obj,h.fr.obn,h.fr.row,h.fr.obr,h.fr.trd,fun k j b ad=>⟨(h.fr.trb k j b ad).1,Nat.lt_of_lt_of_le (h.fr.trb k j b ad).2 a1.size⟩,h.fr.trn,fun b o bg=>(kF.sh b o (h.fr.keep b o bg).1).trans (h.fr.sh b o bg)⟩ h.new
 ·obtain⟨bl,us,el,g1,g2,g3,g4,g5⟩:=h.good.box k cs ab;exact⟨bl,us,el,g1,g2,g3,by rw[a1.block bl (Array.getElem?_eq_some_iff.1 g4).1 (by simp)];exact g4,pX kF g5⟩
 ·obtain⟨v,us,g1,g2,g3,g4⟩:=h.good.own g o dU;exact⟨v,us,g1,g2.kept a1 (by cases v.ownBlock<;>simp),g3,rO kF (fun _ _ _ h=>h) g4⟩
 ·rw[a1.block k (Nat.lt_of_lt_of_le ab h.fr.size) (by simp)];exact h.fr.block k ab hm
 ·obtain⟨aU,bG⟩:=h.fr.keep b o bg;exact⟨aU,(kF.A b o aU).2.trans bG⟩
theorem c6.new{P:cD}{n:Nat}{args:List ah}{st:bq}{d:aY Nat}{K:bq→Prop}{s:cK}{Q:ah→cK→Prop}(aJ:bN P n args s Q)(ag:ed s)(ad:∀k cs,look k s.b=some cs→look k st.b=some cs)(he:∀k o,look k s.e=some o→look k st.e=some o)
  (ab:aI (inObs s) args) (h:∀r ai,Q r ai→(∀m,inObs ai (.obj m)→inObs s (.obj m)∧Same s ai∨ .obj m∉st.o)∧K ⟨eH d r st.t,cz s.b st.b++ai.b,cz s.e st.e++ai.e,st.n,st.o++cV ai⟩):c6 P n args st d K:=by
 refine .inl ⟨s,Q,fun k cs au=>⟨ad k cs au,.inl (by simp[au]),ag.kb k cs au⟩,fun k o ax=>⟨he k o ax,.inr (by simp[ax]),ag.ke k o ax⟩,ag.obj,ab,aJ,fun r ai br=>?_⟩;obtain⟨J,U⟩:=h r ai br;refine⟨⟨fun m hm=>?_,fun m hm=>?_⟩,U⟩
 ·rcases J m (.inl hm)with⟨_,ao⟩|ao
  ·exact .inl (by rw[ao.b];exact hm)
  ·exact .inr ao
 ·rcases J m (.inr hm)with⟨_,ao⟩|ao
  ·exact .inl (by rw[ao.e];exact hm)
  ·exact .inr ao
theorem cT.new{fc:List bu}{s:cK}{Q:ah→cK→Prop}{e:Exit}{st:bq}(ai:cK)(tP:e= .ret∨e= .normal)(ag:ed ai)(e6:lU ai s.b∧lU ai s.e)(ad:∀k cs,look k ai.b=some cs→look k st.b=some cs)(dv:∀k o,look k ai.e=some o→look k st.e=some o)
  (h:cY st fc fun r=>aB (inObs ai) r∧Q r ai):cT fc s Q e st:=by
 unfold cY at h;split at h
 ·rename_i c cv aK;refine⟨tP,?_⟩;rw[aK];exact⟨h.1,ai,e6.1,e6.2,fun k cs dm=>⟨ad k cs dm,.inl (by simp[dm]),ag.kb k cs dm⟩,fun k o ax=>⟨dv k o ax,.inr (by simp[ax]),ag.ke k o ax⟩,ag.obj,h.2.1,h.2.2⟩
 ·exact h.elim
@[simp] theorem ank{P:cD}{ob:List aH}{c d:C}{Q:Exit→bq→Prop}{st:bq}{s:Nat}:cW P ob (.seq (.pub s c) d) Q st=wE P ob (.seq c d) Q (vZ st s):=by simp only[cW];cases vZ st s<;>rfl
@[simp] theorem anj{P:cD}{ob:List aH}{c d:C}{Q:Exit→bq→Prop}{st:bq}{s:Nat}:cW P ob (.seq (.pubB s c) d) Q st=wE P ob (.seq c d) Q (vY st s):=by simp only[cW];cases vY st s<;>rfl
end Go.Pv
namespace Go.Pv
open Go Go.RowKit
def ue(t:List (Nat×ah))(cd:List Nat):List (Nat×ah):=cd.map fun k=>(k,get k t)
@[simp] theorem aop(t:List (Nat×ah)):ue t []=[]:=rfl
@[simp] theorem aoo(t:List (Nat×ah))(k:Nat)(cd:List Nat):ue t (k::cd)=(k,get k t)::ue t cd:=rfl
def o7(st:bq)(cd:List Nat)(cs:List (Nat×ah)):bq:=⟨ue st.t cd++cs,st.b,st.e,st.n,st.o⟩
theorem af4(t:List (Nat×ah))(b:List (aH×List ah))(e:List (aH×fK))(n:Nat)(o:List aH)(cd:List Nat)(cs:List (Nat×ah)):o7 ⟨t,b,e,n,o⟩ cd cs=⟨ue t cd++cs,b,e,n,o⟩:=rfl
def yr{α:Type}(S:Nat→α→bq)(n:Nat)(gK:Nat→α→Prop)(k:Nat)(st:bq):Prop:= ∃i a,i≤n∧k=n-i∧gK i a∧st=S i a
section
variable {P:cD} {ob:List aH} {st:bq} {Q:Exit→bq→Prop} {c:C} {α:Type}
theorem iA(S:Nat→α→bq)(n:Nat)(gK:Nat→α→Prop)(a0:α)(hw:ix ob st (S 0 a0))(bA:gK 0 a0)(vk:∀a,gK n a→(∀i,dZ (get i (S n a).t))→cW P ob c (bO ob (yr S n gK) 0 Q) (S n a))
  (jz:∀i a,i<n→gK i a→(∀j,dZ (get j (S i a).t))→cW P ob c (bO ob (yr S n gK) (n-i) Q) (S i a)):cW P ob (.loop c) Q st:=by
 refine oU (yr S n gK) n _ hw ⟨0,a0,by omega,by omega,bA,rfl⟩ ?_;rintro k s ⟨i,a,hi,rfl,af,rfl⟩ ad _;rcases Nat.lt_or_ge i n with h|h
 ·exact jz i a h af ad
 ·obtain rfl:i=n:=by omega
  rw[Nat.sub_self];exact vk a af ad
theorem bO.rng{S:Nat→α→bq}{n:Nat}{gK:Nat→α→Prop}{i:Nat}(bn:α)(hi:i<n)(af:gK (i+1) bn)(hw:ix ob st (S (i+1) bn)):bO ob (yr S n gK) (n-i) Q .normal st:=⟨n-(i+1),_,by omega,hw,i+1,bn,by omega,rfl,af,rfl⟩
def AK{α:Type}(S:α→bq)(mz:α→Nat)(gK:α→Prop)(k:Nat)(st:bq):Prop:= ∃a,k=mz a∧gK a∧st=S a
theorem n1(S:α→bq)(mz:α→Nat)(gK:α→Prop)(a0:α)(hw:ix ob st (S a0))(bA:gK a0)
  (jz:∀a,gK a→(∀j,dZ (get j (S a).t))→cW P ob c (bO ob (AK S mz gK) (mz a) Q) (S a)):cW P ob (.loop c) Q st:=by
 refine oU (AK S mz gK) (mz a0) _ hw ⟨a0,rfl,bA,rfl⟩ ?_;rintro k s ⟨a,rfl,af,rfl⟩ ad _;exact jz a af ad
theorem bO.whl{S:α→bq}{mz:α→Nat}{gK:α→Prop}{k:Nat}(bn:α)(hm:mz bn<k)(af:gK bn)(hw:ix ob st (S bn)):bO ob (AK S mz gK) k Q .normal st:=⟨mz bn,_,hm,hw,bn,rfl,af,rfl⟩
end
theorem fV{p:Prop}(h:p:=by(try simp[*]);(repeat' first|with_reducible refine aj ?_|with_reducible refine aD (by assumption) ?_|with_reducible refine aE (by assumption) ?_|simp[*]);(all_goals first|exact bO.rng () (by assumption) (by first|assumption|trivial) bW|exact bO.rng _ (by assumption) (by assumption) bW)):p:=h
end Go.Pv
namespace Go.Pv
open Go Go.RowKit
def lV(s:cK)(n:Nat)(k:aH):Prop:=inObs s k∨ ∃m,m<n∧k= .loc m
@[simp] theorem TN(s:cK)(n m:Nat)(hm:m<n):lV s n (.loc m):= .inr ⟨m,hm,rfl⟩
theorem zO{s:cK}{n:Nat}{l:List ah}(h:aI (inObs s) l):aI (lV s n) l:=jM (fun _ h=>.inl h) l h
theorem xO{s ai:cK}(e6:Same s ai){n:Nat}{k:aH}(h:lV ai n k):¬fresh n (cV s) k:=by
 rcases h with h|⟨m,hm,rfl⟩
 ·exact fun aJ=>aJ.2 (sT ((e6.inObs k).2 h))
 ·intro aJ;have:=aJ.1;simp at this;omega
theorem ix.obL{s ai:cK}(gb:ed ai)(e6:Same s ai){st:bq}{dJ:List (Nat×ah)}{L:List (aH×List ah)}{n:Nat}(aO:∀x∈dJ,get x.1 st.t=x.2∧aB (lV ai n) x.2)(ju:∀x∈L,look x.1 st.b=some x.2∧lV ai n x.1∧aI (lV ai n) x.2)
  (ad:∀k cs,look k ai.b=some cs→look k st.b=some cs) (he:∀k o,look k ai.e=some o→look k st.e=some o):ix (cV s) st ⟨dJ,L++ai.b,ai.e,n,cV s⟩:=by
 refine⟨fun x ae=>⟨(aO x ae).1,vJ (fun k ab=>xO e6 ab) _ (aO x ae).2⟩,fun k cs ab=>?_,fun k o ax=>?_,fun m hm=>hm⟩
 ·simp only at ab;rw[cJ]at ab;cases av:look k L with
  |some x=>rw[av]at ab;simp only[dG]at ab;subst ab;obtain⟨J,U,ao⟩:=ju _ (sO av);exact⟨J,xO e6 U,jM (fun k ab=>xO e6 ab) _ ao⟩
  |none=>rw[av]at ab;exact⟨ad k cs ab,xO e6 (.inl (.inl (by simp[ab]))),jM (fun k ab=>xO e6 (.inl ab)) _ (gb.kb k cs ab)⟩
 ·exact⟨he k o ax,xO e6 (.inl (.inr (by simp at ax;simp[ax]))),fun xs ae=>jM (fun k ab=>xO e6 (.inl ab)) _ (gb.ke k o ax xs ae)⟩
def gY{α:Type}(l:List α)(i j:Nat):List α:=match l[i]?,l[j]? with
 |some x,some y=>(l.set i y).set j x
 |_,_=>l
section
variable {α:Type}
@[simp] theorem afy(l:List α)(i j:Nat):(gY l i j).length=l.length:=by unfold gY;split<;>simp
theorem zF(l:List α)(i j k:Nat)(hi:i<l.length)(af:j<l.length):(gY l i j)[k]? =if k=i then l[j]? else if k=j then l[i]? else l[k]?:=by
 unfold gY;rw[cf hi,cf af];simp only[List.getElem?_set,List.length_set];by_cases J:j=k
 ·subst J;by_cases U:j=i
  ·subst U;simp[hi]
  ·simp[U,af]
 ·by_cases U:i=k
  ·subst U;simp[J,hi]
  ·simp[J,U,kN J,kN U]
theorem Tm(l:List α)(i j:Nat):(gY l i j).Perm l:=by
 unfold gY;split
 ·rename_i x y ae aL;obtain⟨hi,rfl⟩:=fi.1 ae;obtain⟨af,rfl⟩:=fi.1 aL;exact List.set_set_perm hi af
 ·exact .refl _
inductive gk (a b:Nat):List α→List α→Prop
 |refl (l:List α):gk a b l l
 |step {l m:List α} {i j:Nat}:gk a b l m→a≤i→i<b→a≤j→j<b→i<m.length→j<m.length→gk a b l (gY m i j)
theorem gk.length{a b:Nat}{l m:List α}(h:gk a b l m):m.length=l.length:=by
 induction h with
 |refl=>rfl
 |step _ _ _ _ _ _ _ bU=>rw[afy,bU]
theorem gk.perm{a b:Nat}{l m:List α}(h:gk a b l m):m.Perm l:=by
 induction h with
 |refl=>exact .refl _
 |step _ _ _ _ _ _ _ bU=>exact(Tm _ _ _).trans bU
theorem gk.out{a b:Nat}{l m:List α}(h:gk a b l m)(k:Nat)(ab:k<a∨b≤k):m[k]? =l[k]?:=by
 induction h with
 |refl=>rfl
 |step _ J U ao ba b2 c7 bU=>rw[zF _ _ _ _ b2 c7,if_neg (by omega),if_neg (by omega)];exact bU
theorem gk.all{a b:Nat}{l m:List α}(h:gk a b l m)(p:α→Prop)(bI:∀k x,a≤k→k<b→l[k]? =some x→p x):∀k x,a≤k→k<b→m[k]? =some x→p x:=by
 induction h with
 |refl=>exact bI
 |step _ J U ao ba b2 c7 bU=>
  intro k x gp kU ae;rw[zF _ _ _ _ b2 c7]at ae;split at ae
  ·exact bU _ _ ao ba ae
  ·split at ae
   ·exact bU _ _ J U ae
   ·exact bU _ _ gp kU ae
theorem gk.trans{a b:Nat}{l m r:List α}(h:gk a b l m)(ca:gk a b m r):gk a b l r:=by
 induction ca with
 |refl=>exact h
 |step _ J U ao ba b2 c7 bU=>exact .step bU J U ao ba b2 c7
theorem gk.mono{a b bn b1:Nat}{l m:List α}(h:gk a b l m)(bt:bn≤a)(ad:b≤b1):gk bn b1 l m:=by
 induction h with
 |refl=>exact .refl _
 |step _ J U ao ba b2 c7 bU=>exact .step bU (by omega) (by omega) (by omega) (by omega) b2 c7
def e4(lt:α→α→Bool)(a b:Nat)(l:List α):Prop:= ∀i j x y,a≤i→i<j→j<b→l[i]? =some x→l[j]? =some y→lt y x=false
structure p9 (lt:α→α→Bool):Prop where
 asym:∀x y,lt x y=true→lt y x=false
 ntr:∀x y z,lt y x=false→lt z y=false→lt z x=false
theorem e4.pairwise{lt:α→α→Bool}{l:List α}(h:e4 lt 0 l.length l):l.Pairwise fun x y=>lt y x=false:=by rw[pj];intro i j hi af lP;exact h i j _ _ (by omega) lP af (cf hi) (cf af)
def hQ(a m b k:Nat):Nat:=if k<a then k else if k<a+(b-m)then k+(m-a)else if k<b then k-(b-m)else k
def rU(a b c k:Nat):Nat:=if a≤k∧k<a+c then b+(k-a)else if b≤k∧k<b+c then a+(k-b)else k
end
theorem EA(i j:Nat)(h:i+j≤1099511627776):IntKind.i64.wrap (Int.fdiv (hd.wrap ((i:Int)+j)) (2 ^ (min 1 hd.bits)))=((i+j)/2:Nat):=by
 have hw:hd.wrap ((i:Int)+j)=i+j:=by simp[r5,nO,r4];omega
 have IY:hd.bits=64:=rfl;rw[hw,IY,show(2:Int) ^ (min 1 64)=2 from by decide,Int.fdiv_eq_ediv_of_nonneg _ (by omega),oF]
 ·omega
 ·omega
end Go.Pv
namespace Go.Pv
open Go
inductive bT where
 |mk (kind n:Int) (name:List dz) (args:List bT)
def bT.kind:bT→Int| .mk k _ _ _=>k
def bT.num:bT→Int| .mk _ n _ _=>n
def bT.name:bT→List dz| .mk _ _ s _=>s
def bT.args:bT→List bT| .mk _ _ _ a=>a
mutual
def enc:bT→ah
 | .mk k n s a=>.agg [.int .i64 k,.int .i64 n,.str s,.slice 4 .no (oS a)]
def oS:List bT→List ah
 |[]=>[]
 |x::xs=>enc x::oS xs
end
theorem Ef:∀l,oS l=l.map enc
 |[]=>rfl
 |x::xs=>by simp[oS,Ef xs]
theorem u7(t:bT):enc t= .agg [.int .i64 t.kind,.int .i64 t.num,.str t.name,.slice 4 .no (t.args.map enc)]:=by cases t;simp[enc,Ef,bT.kind,bT.num,bT.name,bT.args]
mutual
theorem S4(S:aH→Prop):∀t:bT,aB S (enc t)
 | .mk k n s a=>by simp[enc,aB,aI,JZ S a]
theorem JZ(S:aH→Prop):∀l:List bT,aI S (oS l)
 |[]=>by simp[oS,aI]
 |x::xs=>by simp[oS,aI,S4 S x,JZ S xs]
end
mutual
theorem VU:∀t:bT,dq (enc t)=enc t
 | .mk k n s a=>by simp[enc,dq,cZ,LX a]
theorem LX:∀l:List bT,cZ (oS l)=oS l
 |[]=>by simp[oS,cZ]
 |x::xs=>by simp[oS,cZ,VU x,LX xs]
end
@[simp] theorem aoP(S:aH→Prop)(t:bT):aB S (enc t)=True:=eq_true (S4 S t)
@[simp] theorem aoA(S:aH→Prop)(l:List bT):aI S (l.map enc)=True:=by rw[←Ef];exact eq_true (JZ S l)
theorem akt(l:List bT):cZ (l.map enc)=l.map enc:=by rw[←Ef];exact LX l
attribute [simp] VU akt
@[simp] theorem aqV(t:bT):eb (enc t)=true:=by rw[u7];rfl
@[simp] theorem amW(t:bT):cells (enc t)=[.int .i64 t.kind,.int .i64 t.num,.str t.name,.slice 4 .no (t.args.map enc)]:=by rw[u7];rfl
@[simp] theorem amy(t:bT):ah.agg [.int .i64 t.kind,.int .i64 t.num,.str t.name,.slice 4 .no (t.args.map enc)]=enc t:=(u7 t).symm
@[simp] theorem anD(off:Nat)(eX:Bool)(sz:Nat)(t:bT):q2 off eX sz (enc t)=if eX then some (off+sz≤4,.agg (([.int .i64 t.kind,.int .i64 t.num,.str t.name,.slice 4 .no (t.args.map enc)].drop off).take sz))else(([.int .i64 t.kind,.int .i64 t.num,.str t.name,.slice 4 .no (t.args.map enc)]:List ah)[off]?).map fun p=>(True,p):=by rw[u7];rfl
@[simp] theorem ans(off:Nat)(eX:Bool)(sz:Nat)(t:bT):pC off eX sz (.eptr (enc t))=if eX then some (off+sz≤4,.eptr (.agg (([.int .i64 t.kind,.int .i64 t.num,.str t.name,.slice 4 .no (t.args.map enc)].drop off).take sz)))else(([.int .i64 t.kind,.int .i64 t.num,.str t.name,.slice 4 .no (t.args.map enc)]:List ah)[off]?).map fun p=>(eb p=true∧cells p=[p],.eptr p):=by rw[u7];rfl
@[simp] theorem aoi(t:bT):Pv.isAgg 4 (enc t):=by rw[u7];exact⟨_,rfl,rfl⟩
inductive T where
 |nil
 |var (n:Int)
 |sym (s:List dz)
 |num (n:Int)
 |pair (a b:T)
 deriving DecidableEq,Inhabited
def T.tm:T→bT
 | .nil=>.mk 0 0 [] []
 | .var n=>.mk 1 n [] []
 | .sym s=>.mk 2 0 s []
 | .num n=>.mk 3 n [] []
 | .pair a b=>.mk 4 0 [] [a.tm,b.tm]
def T.e:T→ah
 | .nil=>.agg [.int .i64 0,.int .i64 0,.str [],.slice 4 .no []]
 | .var n=>.agg [.int .i64 1,.int .i64 n,.str [],.slice 4 .no []]
 | .sym s=>.agg [.int .i64 2,.int .i64 0,.str s,.slice 4 .no []]
 | .num n=>.agg [.int .i64 3,.int .i64 n,.str [],.slice 4 .no []]
 | .pair a b=>.agg [.int .i64 4,.int .i64 0,.str [],.slice 4 .no [a.e,b.e]]
theorem qW:∀t:T,enc t.tm=t.e
 | .nil| .var _| .sym _| .num _=>rfl
 | .pair a b=>by simp[T.tm,enc,oS,T.e,qW a,qW b]
def T.kind:T→Int
 | .nil=>0| .var _=>1| .sym _=>2| .num _=>3| .pair _ _=>4
def T.int:T→Int
 | .var n=>n| .num n=>n|_=>0
def T.name:T→List dz
 | .sym s=>s|_=>[]
def T.args:T→List T
 | .pair a b=>[a,b]|_=>[]
theorem T.e_eq(t:T):t.e= .agg [.int .i64 t.kind,.int .i64 t.int,.str t.name,.slice 4 .no (t.args.map T.e)]:=by cases t<;>rfl
@[simp] theorem amx(t:T):ah.agg [.int .i64 t.kind,.int .i64 t.int,.str t.name,.slice 4 .no (t.args.map T.e)]=t.e:=(T.e_eq t).symm
@[simp] theorem amz:ah.agg [.int .i64 0,.int .i64 0,.str [],.slice 4 .no []]=T.nil.e:=rfl
@[simp] theorem amD(n:Int):ah.agg [.int .i64 1,.int .i64 n,.str [],.slice 4 .no []]=(T.var n).e:=rfl
@[simp] theorem amC(s:List dz):ah.agg [.int .i64 2,.int .i64 0,.str s,.slice 4 .no []]=(T.sym s).e:=rfl
@[simp] theorem amA(n:Int):ah.agg [.int .i64 3,.int .i64 n,.str [],.slice 4 .no []]=(T.num n).e:=rfl
@[simp] theorem amB(a b:T):ah.agg [.int .i64 4,.int .i64 0,.str [],.slice 4 .no [a.e,b.e]]=(T.pair a b).e:=rfl
@[simp] theorem anC(off:Nat)(eX:Bool)(sz:Nat)(t:T):q2 off eX sz t.e=if eX then some (off+sz≤4,.agg (([.int .i64 t.kind,.int .i64 t.int,.str t.name,.slice 4 .no (t.args.map T.e)].drop off).take sz))else(([.int .i64 t.kind,.int .i64 t.int,.str t.name,.slice 4 .no (t.args.map T.e)]:List ah)[off]?).map fun p=>(True,p):=by rw[T.e_eq];rfl
@[simp] theorem anr(off:Nat)(eX:Bool)(sz:Nat)(t:T):pC off eX sz (.eptr t.e)=if eX then some (off+sz≤4,.eptr (.agg (([.int .i64 t.kind,.int .i64 t.int,.str t.name,.slice 4 .no (t.args.map T.e)].drop off).take sz)))else(([.int .i64 t.kind,.int .i64 t.int,.str t.name,.slice 4 .no (t.args.map T.e)]:List ah)[off]?).map fun p=>(eb p=true∧cells p=[p],.eptr p):=by rw[T.e_eq];rfl
@[simp] theorem afh:(T.nil).kind=0:=rfl
@[simp] theorem aeL:(T.nil).int=0:=rfl
@[simp] theorem af9:(T.nil).name=[]:=rfl
@[simp] theorem XA:(T.nil).args=[]:=rfl
@[simp] theorem afm(n:Int):(T.var n).kind=1:=rfl
@[simp] theorem aeP(n:Int):(T.var n).int=n:=rfl
@[simp] theorem age(n:Int):(T.var n).name=[]:=rfl
@[simp] theorem XE(n:Int):(T.var n).args=[]:=rfl
@[simp] theorem afl(s:List dz):(T.sym s).kind=2:=rfl
@[simp] theorem aeO(s:List dz):(T.sym s).int=0:=rfl
@[simp] theorem agd(s:List dz):(T.sym s).name=s:=rfl
@[simp] theorem XD(s:List dz):(T.sym s).args=[]:=rfl
@[simp] theorem afi(n:Int):(T.num n).kind=3:=rfl
@[simp] theorem aeM(n:Int):(T.num n).int=n:=rfl
@[simp] theorem aga(n:Int):(T.num n).name=[]:=rfl
@[simp] theorem XB(n:Int):(T.num n).args=[]:=rfl
@[simp] theorem afj(a b:T):(T.pair a b).kind=4:=rfl
@[simp] theorem aeN(a b:T):(T.pair a b).int=0:=rfl
@[simp] theorem agb(a b:T):(T.pair a b).name=[]:=rfl
@[simp] theorem XC(a b:T):(T.pair a b).args=[a,b]:=rfl
@[simp] theorem aoO(S:aH→Prop)(t:T):aB S t.e=True:=by rw[←qW];simp
@[simp] theorem arp(t:T):dq t.e=t.e:=by rw[←qW];simp
theorem SX(S:aH→Prop):∀l:List T,aI S (l.map T.e)
 |[]=>by simp[aI]
 |x::xs=>by simp[aI,SX S xs]
@[simp] theorem SV(S:aH→Prop)(l:List T):aI S (l.map T.e)=True:=eq_true (SX S l)
@[simp] theorem aks:∀l:List T,cZ (l.map T.e)=l.map T.e
 |[]=>rfl
 |x::xs=>by simp[cZ,aks xs]
@[simp] theorem aqU(t:T):eb t.e=true:=by rw[T.e_eq];rfl
@[simp] theorem amV(t:T):cells t.e=[.int .i64 t.kind,.int .i64 t.int,.str t.name,.slice 4 .no (t.args.map T.e)]:=by rw[T.e_eq];rfl
@[simp] theorem aoh(t:T):Pv.isAgg 4 t.e:=by rw[T.e_eq];exact⟨_,rfl,rfl⟩
def T.size:T→Nat
 | .pair a b=>1+a.size+b.size
 |_=>1
theorem T.size_pos(t:T):1≤t.size:=by cases t<;>simp[T.size]<;>omega
def low(b:dz):Bool:=decide (97≤b.toNat∧b.toNat≤122)
def mh(b:dz):Bool:=low b||decide (48≤b.toNat∧b.toNat≤57)||b.toNat==45
def jA(s:List dz):Bool:=decide (1≤s.length∧s.length≤12)&&low (s.getD 0 0)&&(s.drop 1).all mh
def T.ok:T→Bool
 | .nil=>true
 | .var n=>decide (0≤n∧n≤100000)
 | .sym s=>jA s
 | .num n=>decide (-1000000000≤n∧n≤1000000000)
 | .pair a b=>a.ok&&b.ok
def k0(k n:Int)(s:List dz):Bool:=if k=0 then n==0&&s==[]else if k=1 then decide (0≤n∧n≤100000)&&s==[]else if k=2 then n==0&&jA s else if k=3 then decide (-1000000000≤n∧n≤1000000000)&&s==[]else false
def fs:bT→Int→Int
 | .mk k n s [a,b],room=>if room<1∨k≠4∨n≠0∨s≠[]then-1 else if fs a (room-1)<0 then-1 else if fs b (room-1-fs a (room-1))<0 then-1 else 1+fs a (room-1)+fs b (room-1-fs a (room-1))
 | .mk k n s args,room=>if room<1∨k=4∨args≠[]∨k0 k n s=false then-1 else 1
theorem Kz(k n:Int)(s:List dz)(args:List bT)(room:Int):fs (.mk k n s args) room=if room<1 then-1 else if k≠4 then(if args≠[]then-1 else if k0 k n s then 1 else-1)else if n≠0∨s≠[]then-1 else match args with
  |[a,b]=>if fs a (room-1)<0 then-1 else if fs b (room-1-fs a (room-1))<0 then-1 else 1+fs a (room-1)+fs b (room-1-fs a (room-1))
  |_=> -1:=by
 match args with
 |[]=>simp only[fs];by_cases J:room<1<;>by_cases U:k=4<;>by_cases ao:k0 k n s=true<;>simp[J,U,ao]
 |[a]=>simp[fs]
 |[a,b]=>simp only[fs];by_cases J:room<1<;>by_cases U:k=4<;>simp[J,U]
 |a::b::c::r=>simp[fs]
theorem FI:∀(t:T) (room:Int),fs t.tm room=if t.ok=true∧(t.size:Int)≤room then(t.size:Int)else-1
 | .nil,room=>by simp[T.tm,fs,T.ok,T.size,k0];split<;>rename_i h<;>simp_all<;>omega
 | .var n,room=>by simp[T.tm,fs,T.ok,T.size,k0];split<;>split<;>simp_all<;>omega
 | .sym s,room=>by simp[T.tm,fs,T.ok,T.size,k0];by_cases J:room<1<;>by_cases U:jA s=true<;>simp[J,U]<;>omega
 | .num n,room=>by simp[T.tm,fs,T.ok,T.size,k0];split<;>split<;>simp_all<;>omega
 | .pair a b,room=>by
  have bt:=a.size_pos;have ad:=b.size_pos;simp only[T.tm,fs,FI a,FI b,T.ok,T.size,cC];by_cases J:room<1
  ·simp[J];omega
  ·by_cases U:a.ok=true∧(a.size:Int)≤room-1
   ·rw[if_pos U];by_cases ao:b.ok=true∧(b.size:Int)≤room-1-a.size
    ·rw[if_pos ao];simp[J,U.1,ao.1];split<;>omega
    ·rw[if_neg ao];simp[J,U.1];intro lf;have:=ao;simp[lf]at this;omega
   ·rw[if_neg U];simp[J];intro kT;have:=U;simp[kT]at this;omega
theorem Cw:∀(t:bT) (room:Int),fs t room= -1∨1≤fs t room
 | .mk k n s [a,b],room=>by
  simp only[fs];split
  ·exact .inl rfl
  ·split
   ·exact .inl rfl
   ·split
    ·exact .inl rfl
    ·right;omega
 | .mk k n s [],room=>by simp only[fs];split<;>simp
 | .mk k n s [a],room=>by simp[fs]
 | .mk k n s (a::b::c::r),room=>by simp[fs]
theorem KB:∀(t:bT) (room:Int),0<fs t room→∃x:T,x.tm=t
 | .mk k n s [a,b],room,h=>by
  simp only[fs]at h;split at h
  ·omega
  ·rename_i J;simp only[not_or,Int.not_lt,ne_eq,arF]at J;obtain⟨J,rfl,rfl,rfl⟩:=J;split at h
   ·omega
   ·split at h
    ·omega
    ·obtain⟨x,rfl⟩:=KB a (room-1) (by rcases Cw a (room-1)with h|h<;>omega);obtain⟨y,rfl⟩:=KB b (room-1-fs x.tm (room-1)) (by rcases Cw b (room-1-fs x.tm (room-1))with h|h<;>omega);exact⟨.pair x y,rfl⟩
 | .mk k n s [],room,h=>by
  simp only[fs]at h;split at h
  ·omega
  ·rename_i J;simp only[not_or,ne_eq,not_true_eq_false,not_false_eq_true,true_and,Bool.not_eq_false]at J;obtain⟨_,_,J⟩:=J;unfold k0 at J;split at J
   ·rename_i e;subst e;simp at J;obtain⟨rfl,rfl⟩:=J;exact⟨.nil,rfl⟩
   ·split at J
    ·rename_i e;subst e;simp at J;obtain⟨_,rfl⟩:=J;exact⟨.var n,rfl⟩
    ·split at J
     ·rename_i e;subst e;simp at J;obtain⟨rfl,_⟩:=J;exact⟨.sym s,rfl⟩
     ·split at J
      ·rename_i e;subst e;simp at J;obtain⟨_,rfl⟩:=J;exact⟨.num n,rfl⟩
      ·cases J
 | .mk k n s [a],room,h=>by simp[fs]at h
 | .mk k n s (a::b::c::r),room,h=>by simp[fs]at h
theorem KA:∀(t:bT) (room:Int),fs t room≤room∨fs t room= -1
 | .mk k n s [a,b],room=>by
  simp only[fs];split
  ·exact .inr rfl
  ·split
   ·exact .inr rfl
   ·split
    ·exact .inr rfl
    ·rcases KA b (room-1-fs a (room-1))with h|h<;>omega
 | .mk k n s [],room=>by simp only[fs];split<;>simp;rename_i h;omega
 | .mk k n s [a],room=>by simp[fs]
 | .mk k n s (a::b::c::r),room=>by simp[fs]
mutual
def bT.sz:bT→Nat
 | .mk _ _ _ a=>1+bT.szL a
def bT.szL:List bT→Nat
 |[]=>0
 |x::xs=>x.sz+bT.szL xs
end
theorem szL_mem:∀{l:List bT} {x:bT},x∈l→x.sz≤bT.szL l
 |y::l,x,h=>by
  rcases fY.1 h with rfl|h
  ·simp[bT.szL]
  ·have:=szL_mem h;simp[bT.szL];omega
theorem L8{t x:bT}(h:x∈t.args):x.sz<t.sz:=by cases t;simp[bT.args]at h;have:=szL_mem h;simp[bT.sz];omega
def T.fit(t:T):Bool:=t.ok&&decide (t.size≤5000)
def bT.fits(t:bT):Bool:=decide (0<fs t 5000)
theorem bT.fits_T(t:T):t.tm.fits=t.fit:=by
 unfold bT.fits T.fit;rw[FI];have:=t.size_pos;by_cases J:t.ok=true<;>by_cases U:t.size≤5000
 ·rw[if_pos ⟨J,by omega⟩];simp[J,U];omega
 ·rw[if_neg (by omega)];simp[U]
 ·rw[if_neg (by simp[J])];simp[J]
 ·rw[if_neg (by simp[J])];simp[J]
theorem bT.fits_ex{t:bT}(h:t.fits=true):∃x:T,x.tm=t∧x.fit=true:=by obtain⟨x,rfl⟩:=KB t 5000 (by simpa[bT.fits]using h);exact⟨x,rfl,by rw[←bT.fits_T];exact h⟩
structure ar where
 v:Int
 t:T
 deriving DecidableEq,Inhabited
def ar.e(b:ar):ah:= .agg [.int .i64 b.v,.int .i64 b.t.kind,.int .i64 b.t.int,.str b.t.name,.slice 4 .no (b.t.args.map T.e)]
@[simp] theorem ar.eta(b:ar):ar.mk b.v b.t=b:=rfl
@[simp] theorem M0(v:Int)(t:T):ah.agg [.int .i64 v,.int .i64 t.kind,.int .i64 t.int,.str t.name,.slice 4 .no (t.args.map T.e)]=(ar.mk v t).e:=rfl
@[simp] theorem ams(v:Int):ah.agg [.int .i64 v,.int .i64 0,.int .i64 0,.str [],.slice 4 .no []]=(ar.mk v .nil).e:=rfl
@[simp] theorem amw(v n:Int):ah.agg [.int .i64 v,.int .i64 1,.int .i64 n,.str [],.slice 4 .no []]=(ar.mk v (.var n)).e:=rfl
@[simp] theorem amv(v:Int)(s:List dz):ah.agg [.int .i64 v,.int .i64 2,.int .i64 0,.str s,.slice 4 .no []]=(ar.mk v (.sym s)).e:=rfl
@[simp] theorem amt(v n:Int):ah.agg [.int .i64 v,.int .i64 3,.int .i64 n,.str [],.slice 4 .no []]=(ar.mk v (.num n)).e:=rfl
@[simp] theorem amu(v:Int)(a b:T):ah.agg [.int .i64 v,.int .i64 4,.int .i64 0,.str [],.slice 4 .no [a.e,b.e]]=(ar.mk v (.pair a b)).e:=rfl
@[simp] theorem aoH(S:aH→Prop)(b:ar):aB S b.e=True:=by simp[ar.e,-M0]
@[simp] theorem arh(b:ar):dq b.e=b.e:=by simp[ar.e,-M0]
theorem SQ(S:aH→Prop):∀l:List ar,aI S (l.map ar.e)
 |[]=>by simp[aI]
 |x::xs=>by simp[aI,SQ S xs]
@[simp] theorem aow(S:aH→Prop)(l:List ar):aI S (l.map ar.e)=True:=eq_true (SQ S l)
@[simp] theorem VT:∀l:List ar,cZ (l.map ar.e)=l.map ar.e
 |[]=>rfl
 |x::xs=>by simp[cZ,VT xs]
@[simp] theorem aqK(b:ar):eb b.e=true:=rfl
@[simp] theorem amN(b:ar):cells b.e=[.int .i64 b.v,.int .i64 b.t.kind,.int .i64 b.t.int,.str b.t.name,.slice 4 .no (b.t.args.map T.e)]:=rfl
@[simp] theorem aoe(b:ar):Pv.isAgg 5 b.e:=⟨_,rfl,rfl⟩
@[simp] theorem anA(off:Nat)(eX:Bool)(sz:Nat)(b:ar):q2 off eX sz b.e=if eX then some (off+sz≤5,.agg (([.int .i64 b.v,.int .i64 b.t.kind,.int .i64 b.t.int,.str b.t.name,.slice 4 .no (b.t.args.map T.e)].drop off).take sz))else(([.int .i64 b.v,.int .i64 b.t.kind,.int .i64 b.t.int,.str b.t.name,.slice 4 .no (b.t.args.map T.e)]:List ah)[off]?).map fun p=>(True,p):=rfl
@[simp] theorem anp(off:Nat)(eX:Bool)(sz:Nat)(b:ar):pC off eX sz (.eptr b.e)=if eX then some (off+sz≤5,.eptr (.agg (([.int .i64 b.v,.int .i64 b.t.kind,.int .i64 b.t.int,.str b.t.name,.slice 4 .no (b.t.args.map T.e)].drop off).take sz)))else(([.int .i64 b.v,.int .i64 b.t.kind,.int .i64 b.t.int,.str b.t.name,.slice 4 .no (b.t.args.map T.e)]:List ah)[off]?).map fun p=>(eb p=true∧cells p=[p],.eptr p):=rfl
def T.occ(v:Int):T→Bool
 | .var n=>n==v
 | .pair a b=>a.occ v||b.occ v
 |_=>false
def ev(a b:Int):Int:=if a<b then-1 else if b<a then 1 else 0
def kt(a b:List dz):Int:=if a=b then 0 else if ho a b then-1 else 1
def ep:T→T→Int
 | .pair a b,.pair c d=>if ep a c=0 then ep b d else ep a c
 |x,y=>if x.kind≠y.kind then ev x.kind y.kind else if x.int≠y.int then ev x.int y.int else kt x.name y.name
structure cI where
 v:Int
 t:bT
def cI.e(b:cI):ah:= .agg [.int .i64 b.v,.int .i64 b.t.kind,.int .i64 b.t.num,.str b.t.name,.slice 4 .no (b.t.args.map enc)]
def ar.b(b:ar):cI:=⟨b.v,b.t.tm⟩
theorem ar.b_e(b:ar):b.b.e=b.e:=by obtain⟨v,t⟩:=b;cases t<;>simp only[ar.b,cI.e,ar.e,T.tm,bT.kind,bT.num,bT.name,bT.args,qW,afh,afm,afl,afi,afj,aeL,aeP,aeO,aeM,aeN,af9,age,agd,aga,agb,XA,XE,XD,XB,XC,hf,List.map_nil]
@[simp] theorem cI.eta(b:cI):cI.mk b.v b.t=b:=rfl
@[simp] theorem M1(v:Int)(t:bT):ah.agg [.int .i64 v,.int .i64 t.kind,.int .i64 t.num,.str t.name,.slice 4 .no (t.args.map enc)]=(cI.mk v t).e:=rfl
@[simp] theorem aoJ(S:aH→Prop)(b:cI):aB S b.e=True:=by simp[cI.e,-M1]
@[simp] theorem arj(b:cI):dq b.e=b.e:=by simp[cI.e,-M1]
theorem SU(S:aH→Prop):∀l:List cI,aI S (l.map cI.e)
 |[]=>by simp[aI]
 |x::xs=>by simp[aI,SU S xs]
@[simp] theorem aoy(S:aH→Prop)(l:List cI):aI S (l.map cI.e)=True:=eq_true (SU S l)
@[simp] theorem akr:∀l:List cI,cZ (l.map cI.e)=l.map cI.e
 |[]=>rfl
 |x::xs=>by simp[cZ,akr xs]
@[simp] theorem aqN(b:cI):eb b.e=true:=rfl
@[simp] theorem amQ(b:cI):cells b.e=[.int .i64 b.v,.int .i64 b.t.kind,.int .i64 b.t.num,.str b.t.name,.slice 4 .no (b.t.args.map enc)]:=rfl
@[simp] theorem aog(b:cI):Pv.isAgg 5 b.e:=⟨_,rfl,rfl⟩
@[simp] theorem anB(off:Nat)(eX:Bool)(sz:Nat)(b:cI):q2 off eX sz b.e=if eX then some (off+sz≤5,.agg (([.int .i64 b.v,.int .i64 b.t.kind,.int .i64 b.t.num,.str b.t.name,.slice 4 .no (b.t.args.map enc)].drop off).take sz))else(([.int .i64 b.v,.int .i64 b.t.kind,.int .i64 b.t.num,.str b.t.name,.slice 4 .no (b.t.args.map enc)]:List ah)[off]?).map fun p=>(True,p):=rfl
@[simp] theorem anq(off:Nat)(eX:Bool)(sz:Nat)(b:cI):pC off eX sz (.eptr b.e)=if eX then some (off+sz≤5,.eptr (.agg (([.int .i64 b.v,.int .i64 b.t.kind,.int .i64 b.t.num,.str b.t.name,.slice 4 .no (b.t.args.map enc)].drop off).take sz)))else(([.int .i64 b.v,.int .i64 b.t.kind,.int .i64 b.t.num,.str b.t.name,.slice 4 .no (b.t.args.map enc)]:List ah)[off]?).map fun p=>(eb p=true∧cells p=[p],.eptr p):=rfl
def zQ(l:List cI)(i:Nat):Prop:= ∀b,l[i]? =some b→(0≤b.v∧b.v≤100000)∧(∀c,0<i→l[i-1]? =some c→c.v<b.v)∧b.t.fits=true
def tu(l:List cI):Prop:=l.length≤400∧∀i,i<l.length→zQ l i
theorem qB:∀a b:T,ep a b=0↔a=b
 | .pair a b,.pair c d=>by
  simp only[ep,T.pair.injEq];split
  ·rename_i h;rw[qB b d,←qB a c];simp[h]
  ·rename_i h;simp[h,←qB a c]
 | .nil,y=>by cases y<;>simp[ep,ev,kt]
 | .var n,y=>by cases y<;>simp[ep,ev,kt]<;>omega
 | .sym s,y=>by cases y<;>simp[ep,ev,kt];rename_i ai;by_cases h:s=ai<;>simp[h];by_cases U:ho s ai=true<;>simp[U]
 | .num n,y=>by cases y<;>simp[ep,ev,kt]<;>omega
 | .pair a b,.nil| .pair a b,.var _| .pair a b,.sym _| .pair a b,.num _=>by simp[ep,ev]
def T.sub(f:Int→aY T):T→T
 | .var n=>match f n with|some x=>x|none=>.var n
 | .pair a b=>.pair (a.sub f) (b.sub f)
 |t=>t
def k1(f:Int→Int):T→Int
 | .var n=>if 5001<f n then 5001 else f n
 | .pair a b=>if 5000<k1 f a then k1 f a else if 5001<1+k1 f a+k1 f b then 5001 else 1+k1 f a+k1 f b
 |_=>1
theorem Gz(f:Int→Int)(aJ:∀v,-1≤f v):∀t,-1≤k1 f t∧k1 f t≤5001
 | .var n=>by have:=aJ n;simp only[k1];split<;>omega
 | .pair a b=>by have:=Gz f aJ a;have:=Gz f aJ b;simp only[k1];split<;>(try split)<;>omega
 | .nil| .sym _| .num _=>by simp[k1]
def df(l:List ar)(v:Int):aY T:=(l.find? fun b=>b.v==v).map (·.t)
end Go.Pv
namespace Go.Pv
open Go
structure jn {α:Type} (c:α→α→Int):Prop where
 neg:∀a b,c b a= -c a b
 tr:∀a b d,c a b≤0→c b d≤0→c a d≤0
 zero:∀a b,c a b=0↔a=b
section
variable {α:Type} {c:α→α→Int}
def hG(c:α→α→Int)(a b:α):Bool:=decide (c a b<0)
theorem jn.ltOk(h:jn c):p9 (hG c):=by
 refine⟨fun x y hL=>?_,fun x y z J U=>?_⟩
 ·simp only[hG,fk,gz]at hL⊢;rw[h.neg x y];omega
 ·simp only[hG,gz]at J U⊢;have ak:=h.neg x y;have aC:=h.neg y z;have bk:=h.neg x z;have:=h.tr x y z (by omega) (by omega);omega
theorem jn.refl(h:jn c)(a:α):c a a=0:=(h.zero a a).2 rfl
theorem jn.ltr(h:jn c){a b d:α}(J:c a b<0)(U:c b d≤0):c a d<0:=by
 have ao:=h.tr a b d (by omega) U;rcases(by omega:c a d<0∨c a d=0)with ba|ba
 ·exact ba
 ·obtain rfl:=(h.zero a d).1 ba;have:=h.neg a b;omega
def oy(c:α→α→Int)(l:List α):List α:=l.mergeSort fun x y=>decide (c x y≤0)
theorem yd(c:α→α→Int)(l:List α):(oy c l).Perm l:=List.mergeSort_perm l _
theorem LV(h:jn c)(l:List α):(oy c l).Pairwise fun x y=>c x y≤0:=by have:=List.pairwise_mergeSort (le:=fun x y=>decide (c x y≤0)) (fun a b d J U=>by simp at J U⊢;exact h.tr a b d J U) (fun a b=>by simp;have:=h.neg a b;omega) l;exact this.imp (by simp)
theorem VP(h:jn c){l aZ:List α}(bI:aZ.Perm l)(ag:aZ.Pairwise fun x y=>hG c y x=false):aZ=oy c l:=by refine ML (le:=fun x y=>c x y≤0) (fun x y _ _ J U=>(h.zero x y).1 (by have:=h.neg x y;omega)) (ag.imp fun{x y} hL=>?_) (LV h l) (bI.trans (yd c l).symm);simp only[hG,gz]at hL;have:=h.neg x y;omega
def cG[DecidableEq α](p:aY α):List α→List α
 |[]=>[]
 |x::r=>if p=some x then cG (some x) r else x::cG (some x) r
def asc[DecidableEq α](c:α→α→Int)(l:List α):List α:=cG none (oy c l)
def hH(c:α→α→Int)(l:List α):Prop:=l.Pairwise fun x y=>c x y<0
variable [DecidableEq α]
theorem HY:∀(l:List α) (p:aY α) (x:α),x∈cG p l→x∈l
 |[],_,_,h=>by simp[cG]at h
 |y::r,p,x,h=>by
  simp only[cG]at h;split at h
  ·exact pg _ (HY r _ x h)
  ·rcases fY.1 h with rfl|h
   ·simp
   ·exact pg _ (HY r _ x h)
theorem Km:∀(l:List α) (p:aY α) (x:α),x∈l→x∈cG p l∨p=some x
 |y::r,p,x,h=>by
  simp only[cG];rcases fY.1 h with rfl|h
  ·split
   ·rename_i U;exact .inr U
   ·simp
  ·split
   ·rename_i U;rcases Km r (some y) x h with ao|ao
    ·exact .inl ao
    ·cases ao;exact .inr U
   ·rcases Km r (some y) x h with ao|ao
    ·exact .inl (pg _ ao)
    ·cases ao;simp
theorem PW(au:jn c):∀(l:List α) (p:aY α),l.Pairwise (fun x y=>c x y≤0)→(∀y,p=some y→∀x∈l,c y x≤0)→hH c (cG p l)∧∀y,p=some y→∀x∈cG p l,c y x<0
 |[],p,_,_=>⟨arM,fun y _ x ae=>by simp[cG]at ae⟩
 |z::r,p,h,bI=>by
  obtain⟨J,U⟩:=mB.1 h;have bU:=PW au r (some z) U (fun y aL x ae=>by cases aL;exact J x ae);simp only[cG];split
  ·rename_i ao;subst ao;exact bU
  ·rename_i ao;refine⟨mB.2 ⟨fun x ae=>bU.2 z rfl x ae,bU.1⟩,fun y aL x ae=>?_⟩;subst aL;have ry:c y z<0:=by
    have ba:=bI y rfl z (by simp);rcases(by omega:c y z<0∨c y z=0)with b2|b2
    ·exact b2
    ·exact absurd (e2 some ((au.zero y z).1 b2)) ao
   rcases fY.1 ae with rfl|ae
   ·exact ry
   ·exact au.ltr ry (by have:=bU.2 z rfl x ae;omega)
theorem Hm(au:jn c)(l:List α):hH c (asc c l):=(PW au _ none (LV au l) (fun y h=>by cases h)).1
theorem Tv(l:List α)(x:α):x∈asc c l↔x∈l:=by
 constructor
 ·intro h;exact(yd c l).mem_iff.1 (HY _ _ _ h)
 ·intro h;rcases Km (oy c l) none x ((yd c l).mem_iff.2 h)with h|h
  ·exact h
  ·cases h
omit [DecidableEq α]in
theorem hH.ext(au:jn c){l aZ:List α}(h:hH c l)(ca:hH c aZ)(hm:∀x,x∈l↔x∈aZ):l=aZ:=by
 have aP:∀{l:List α},hH c l→l.Nodup:=fun{l} h=>h.imp fun{a b} h e=>by subst e;have:=au.refl a;omega
 refine ML (le:=fun x y=>c x y≤0) (fun x y _ _ J U=>(au.zero x y).1 (by have:=au.neg x y;omega)) (h.imp fun h=>by omega) (ca.imp fun h=>by omega) ?_;exact(List.perm_ext_iff_of_nodup (aP h) (aP ca)).2 hm
omit [DecidableEq α]in
theorem hH.nodup(au:jn c){l:List α}(h:hH c l):l.Nodup:=h.imp fun{a b} h e=>by subst e;have:=au.refl a;omega
end
theorem Hs:∀a b:List dz,ho a b=true→ho b a=false
 |_,[],h=>by simp[ho]at h
 |[],_::_,_=>by simp[ho]
 |x::a,y::b,h=>by
  simp only[ho,mA,fk,cC,dO]at h;simp only[ho,Bool.or_eq_false_iff,gz,Bool.and_eq_false_iff];rcases h with h|⟨rfl,h⟩
  ·refine⟨fun U=>?_,.inl ?_⟩
   ·rw[UInt8.lt_iff_toNat_lt]at h U;omega
   ·simp;intro e;subst e;rw[UInt8.lt_iff_toNat_lt]at h;omega
  ·exact⟨fun U=>by rw[UInt8.lt_iff_toNat_lt]at U;omega,.inr (Hs a b h)⟩
theorem Ni:∀a b:List dz,a≠b→ho a b=false→ho b a=true
 |[],[],h,_=>absurd rfl h
 |x::a,[],_,_=>by simp[ho]
 |[],_::_,_,h=>by simp[ho]at h
 |x::a,y::b,cF,h=>by
  simp only[ho,Bool.or_eq_false_iff,gz,Bool.and_eq_false_iff]at h;simp only[ho,mA,fk,cC,dO];by_cases e:x=y
  ·subst e;right;refine⟨rfl,Ni a b (fun e=>cF (by rw[e])) ?_⟩;rcases h.2 with U|U
   ·simp at U
   ·exact U
  ·left;have J:=h.1;rw[UInt8.lt_iff_toNat_lt]at J⊢;have:x.toNat≠y.toNat:=fun h=>e (UInt8.toNat_inj.1 h);omega
theorem Nh:∀a b d:List dz,ho a b=true→ho b d=true→ho a d=true
 |_,[],_,h,_=>by simp[ho]at h
 |_,_::_,[],_,h=>by simp[ho]at h
 |[],_::_,_::_,_,_=>by simp[ho]
 |x::a,y::b,z::d,J,U=>by
  simp only[ho,mA,fk,cC,dO,UInt8.lt_iff_toNat_lt]at J U⊢;rcases J with J|⟨rfl,J⟩<;>rcases U with U|⟨rfl,U⟩
  ·left;omega
  ·left;exact J
  ·left;exact U
  ·exact .inr ⟨rfl,Nh a b d J U⟩
theorem j5:jn ev:=by
 refine⟨fun a b=>?_,fun a b d=>?_,fun a b=>?_⟩
 ·simp only[ev];repeat' split
  all_goals omega
 ·simp only[ev];repeat' split
  all_goals omega
 ·simp only[ev];repeat' split
  all_goals omega
theorem CH:jn kt:=by
 have aA:∀a b,kt b a= -kt a b:=fun a b=>by
  simp only[kt];by_cases e:a=b
  ·subst e;simp
  ·rw[if_neg e,if_neg (kN e)];cases h:ho a b with
   |true=>simp[Hs a b h]
   |false=>simp[Ni a b e h]
 refine⟨aA,fun a b d J U=>?_,fun a b=>?_⟩
 ·simp only[kt]at J U⊢;by_cases ak:a=b
  ·subst ak;exact U
  ·by_cases aC:b=d
   ·subst aC;exact J
   ·rw[if_neg ak]at J;rw[if_neg aC]at U;have g1:ho a b=true:=by cases h:ho a b<;>simp[h]at J⊢
    have g2:ho b d=true:=by cases h:ho b d<;>simp[h]at U⊢
    rw[Nh a b d g1 g2];split<;>simp
 ·simp only[kt];by_cases e:a=b
  ·simp[e]
  ·rw[if_neg e];simp[e];split<;>omega
theorem rJ{a b:T}(h:a.kind≠b.kind):ep a b=ev a.kind b.kind:=by cases a<;>cases b<;>simp at h<;>simp[ep]
theorem FQ:∀a b:T,ep b a= -ep a b
 | .pair a b,.pair c d=>by
  simp only[ep];have J:=FQ a c;have U:=FQ b d;by_cases e:ep a c=0
  ·rw[if_pos e,if_pos (by omega),U]
  ·rw[if_neg e,if_neg (by omega),J]
 | .nil,y=>by
  by_cases ab:T.nil.kind=y.kind
  ·cases y<;>simp at ab;simp[ep,kt]
  ·rw[rJ ab,rJ (kN ab),j5.neg]
 | .var n,y=>by
  by_cases ab:(T.var n).kind=y.kind
  ·cases y<;>simp at ab;rename_i m;by_cases e:n=m
   ·subst e;simp[ep,kt]
   ·simp[ep,e,kN e,j5.neg n m]
  ·rw[rJ ab,rJ (kN ab),j5.neg]
 | .sym s,y=>by
  by_cases ab:(T.sym s).kind=y.kind
  ·cases y<;>simp at ab;rename_i m;simp[ep,CH.neg s m]
  ·rw[rJ ab,rJ (kN ab),j5.neg]
 | .num n,y=>by
  by_cases ab:(T.num n).kind=y.kind
  ·cases y<;>simp at ab;rename_i m;by_cases e:n=m
   ·subst e;simp[ep,kt]
   ·simp[ep,e,kN e,j5.neg n m]
  ·rw[rJ ab,rJ (kN ab),j5.neg]
 | .pair a b,.nil| .pair a b,.var _| .pair a b,.sym _| .pair a b,.num _=>by simp[ep,ev]
theorem FP{a b:T}(h:ep a b≤0):a.kind≤b.kind:=by
 by_cases ab:a.kind=b.kind
 ·omega
 ·rw[rJ ab]at h;simp only[ev]at h;repeat' split at h
  all_goals omega
theorem Ue(n m:Int):ep (.var n) (.var m)=ev n m:=by
 simp only[ep,T.kind,T.int,T.name,kt];by_cases e:n=m
 ·subst e;simp[ev]
 ·simp[e]
theorem Ud(n m:Int):ep (.num n) (.num m)=ev n m:=by
 simp only[ep,T.kind,T.int,T.name,kt];by_cases e:n=m
 ·subst e;simp[ev]
 ·simp[e]
theorem ail(n m:List dz):ep (.sym n) (.sym m)=kt n m:=by simp[ep]
theorem FR(a b d:T)(bt:a.kind≠4)(J:ep a b≤0)(U:ep b d≤0):ep a d≤0:=by
 have aU:=FP J;have bG:=FP U;by_cases ab:a.kind=d.kind
 ·cases a<;>cases d<;>simp at ab bt;all_goals(cases b<;>simp at aU bG)
  ·simp[ep,kt]
  ·rw[Ue]at J U⊢;exact j5.tr _ _ _ J U
  ·rw[ail]at J U⊢;exact CH.tr _ _ _ J U
  ·rw[Ud]at J U⊢;exact j5.tr _ _ _ J U
 ·rw[rJ ab];simp only[ev];repeat' split
  all_goals omega
theorem aim:∀a b d:T,ep a b≤0→ep b d≤0→ep a d≤0:=by
 intro a;induction a with
 |pair bC a2 E4 E5=>
  intro b d J U;have aU:=FP J;have bG:=FP U;cases b<;>simp at aU;all_goals(cases d<;>simp at bG)
  rename_i ch b6 d1 d2;simp only[ep]at J U⊢;by_cases ak:ep bC ch=0
  ·obtain rfl:=(qB bC ch).1 ak;rw[if_pos ak]at J;by_cases aC:ep bC d1=0
   ·rw[if_pos aC]at U⊢;exact E5 b6 d2 J U
   ·rw[if_neg aC]at U⊢;exact U
  ·rw[if_neg ak]at J;by_cases aC:ep ch d1=0
   ·obtain rfl:=(qB ch d1).1 aC;rw[if_neg ak];exact J
   ·rw[if_neg aC]at U;have ao:=E4 ch d1 J U;by_cases bk:ep bC d1=0
    ·obtain rfl:=(qB bC d1).1 bk;have:=FQ bC ch;omega
    ·rw[if_neg bk];exact ao
 |nil=>exact fun b d=>FR _ b d (by simp)
 |var n=>exact fun b d=>FR _ b d (by simp)
 |sym n=>exact fun b d=>FR _ b d (by simp)
 |num n=>exact fun b d=>FR _ b d (by simp)
theorem KU:jn ep:=⟨FQ,aim,qB⟩
end Go.Pv
namespace Go.Pv
open Go
section
variable {α:Type} {c:α→α→Int}
def jN(c:α→α→Int):List α→List α→Int
 |[],[]=>0
 |[],_::_=> -1
 |_::_,[]=>1
 |x::xs,y::ys=>if c x y=0 then jN c xs ys else c x y
theorem Tf(h:jn c):∀a b:List α,jN c b a= -jN c a b
 |[],[]=>rfl
 |[],_::_=>rfl
 |_::_,[]=>rfl
 |x::xs,y::ys=>by
  simp only[jN];have J:=h.neg x y;by_cases e:c x y=0
  ·rw[if_pos e,if_pos (by omega),Tf h xs ys]
  ·rw[if_neg e,if_neg (by omega),J]
theorem Th(h:jn c):∀a b:List α,jN c a b=0↔a=b
 |[],[]=>by simp[jN]
 |[],_::_=>by simp[jN]
 |_::_,[]=>by simp[jN]
 |x::xs,y::ys=>by
  simp only[jN,p4];by_cases e:c x y=0
  ·rw[if_pos e,Th h xs ys];simp[(h.zero x y).1 e]
  ·rw[if_neg e];exact⟨fun ca=>absurd ca e,fun ca=>absurd ((h.zero x y).2 ca.1) e⟩
theorem Tg(h:jn c):∀a b d:List α,jN c a b≤0→jN c b d≤0→jN c a d≤0
 |[],_,[],_,_=>by simp[jN]
 |[],_,_::_,_,_=>by simp[jN]
 |_::_,[],_,J,_=>by simp[jN]at J
 |_::_,_::_,[],_,U=>by simp[jN]at U
 |x::xs,y::ys,z::cU,J,U=>by
  simp only[jN]at J U⊢;by_cases ak:c x y=0
  ·have:=(h.zero x y).1 ak;subst this;rw[if_pos ak]at J;by_cases aC:c x z=0
   ·rw[if_pos aC]at U⊢;exact Tg h xs ys cU J U
   ·rw[if_neg aC]at U⊢;exact U
  ·rw[if_neg ak]at J;have bD:c x y<0:=by omega
   by_cases aC:c y z=0
   ·have:=(h.zero y z).1 aC;subst this;rw[if_neg ak];omega
   ·rw[if_neg aC]at U;have:=h.ltr bD U;rw[if_neg (by omega)];omega
theorem afu(h:jn c):jn (jN c):=⟨Tf h,Tg h,Th h⟩
end
def xW(x y:ar):Int:=if ev x.v y.v=0 then ep x.t y.t else ev x.v y.v
theorem aij:jn xW:=by
 refine⟨fun x y=>?_,fun x y z J U=>?_,fun x y=>?_⟩
 ·unfold xW;have:=j5.neg x.v y.v;have:=KU.neg x.t y.t;by_cases e:ev x.v y.v=0
  ·rw[if_pos e,if_pos (by omega)];omega
  ·rw[if_neg e,if_neg (by omega)];omega
 ·unfold xW at J U⊢;by_cases ak:ev x.v y.v=0
  ·rw[if_pos ak]at J;rw[(j5.zero _ _).1 ak];by_cases aC:ev y.v z.v=0
   ·rw[if_pos aC]at U⊢;exact KU.tr _ _ _ J U
   ·rw[if_neg aC]at U⊢;exact U
  ·rw[if_neg ak]at J;have bD:ev x.v y.v<0:=by omega
   by_cases aC:ev y.v z.v=0
   ·rw[←(j5.zero _ _).1 aC,if_neg ak];exact J
   ·rw[if_neg aC]at U;have:=j5.ltr bD U;rw[if_neg (by omega)];omega
 ·unfold xW;by_cases e:ev x.v y.v=0
  ·rw[if_pos e,KU.zero];have:=(j5.zero _ _).1 e;cases x;cases y;simp_all
  ·rw[if_neg e];exact⟨fun h=>absurd h e,fun h=>by rw[h]at e;exact absurd (j5.refl _) e⟩
def eu:List ar→List ar→Int:=jN xW
theorem lz:jn eu:=afu aij
end Go.Pv
namespace Go.Pv
open Go
def T.ap(aN:Int→T):T→T
 | .var n=>aN n
 | .pair a b=>.pair (a.ap aN) (b.ap aN)
 |t=>t
theorem AU(f g:Int→T)(t:T):(t.ap f).ap g=t.ap fun v=>(f v).ap g:=by
 induction t with
 |pair a b dS dT=>simp[T.ap,dS,dT]
 |_=>simp[T.ap]
theorem tx{f g:Int→T}{t:T}(h:∀v,t.occ v=true→f v=g v):t.ap f=t.ap g:=by
 induction t with
 |var n=>exact h n (by simp[T.occ])
 |pair a b dS dT=>simp only[T.ap];rw[dS fun v aG=>h v (by simp[T.occ,aG]),dT fun v aG=>h v (by simp[T.occ,aG])]
 |_=>rfl
theorem Xy(t:T):t.ap .var=t:=by induction t<;>simp_all[T.ap]
theorem M6{f:Int→T}{t:T}(h:∀v,t.occ v=true→f v= .var v):t.ap f=t:=(tx h).trans (Xy t)
theorem VW(f:Int→aY T)(t:T):t.sub f=t.ap fun v=>(f v).getD (.var v):=by
 induction t with
 |var n=>simp only[T.sub,T.ap];cases f n<;>rfl
 |pair a b dS dT=>simp[T.sub,T.ap,dS,dT]
 |_=>rfl
theorem Xx(aN:Int→T)(t:T):t.size≤(t.ap aN).size:=by
 induction t with
 |var n=>exact T.size_pos _
 |pair a b dS dT=>simp only[T.ap,T.size];omega
 |_=>exact eR _
theorem zP(aN:Int→T){v:Int}{t:T}(h:t.occ v=true):(aN v).size≤(t.ap aN).size∧(t.kind≠1→(aN v).size<(t.ap aN).size):=by
 induction t with
 |var n=>simp[T.occ]at h;subst h;simp[T.ap,T.kind]
 |pair a b dS dT=>
  simp only[T.occ,mA]at h;simp only[T.ap,T.size];rcases h with h|h
  ·have:=(dS h).1;exact⟨by omega,fun _=>by omega⟩
  ·have:=(dT h).1;exact⟨by omega,fun _=>by omega⟩
 |_=>simp[T.occ]at h
theorem Cz{aN:Int→T}{v:Int}{t:T}:(t.ap aN).occ v=true↔∃w,t.occ w=true∧(aN w).occ v=true:=by
 induction t with
 |var n=>simp[T.ap,T.occ]
 |pair a b dS dT=>
  simp only[T.ap,T.occ,mA,dS,dT];constructor
  ·rintro(⟨w,J,U⟩|⟨w,J,U⟩)
   ·exact⟨w,.inl J,U⟩
   ·exact⟨w,.inr J,U⟩
  ·rintro⟨w,J|J,U⟩
   ·exact .inl ⟨w,J,U⟩
   ·exact .inr ⟨w,J,U⟩
 |_=>simp[T.ap,T.occ]
def bR(s:List ar)(v:Int):T:=(df s v).getD (.var v)
abbrev hB(s:List ar):Prop:=s.Pairwise fun x y=>x.v<y.v
def gL(s:List ar)(aN:Int→T):Prop:= ∀b∈s,aN b.v=b.t.ap aN
structure fB (s:List ar):Prop where
 asc:hB s
 free:∀b∈s,∀w,b.t.occ w=true→df s w=none
 ori:∀b∈s,∀w,b.t= .var w→w<b.v
theorem tB(b:ar)(s:List ar)(v:Int):df (b::s) v=if b.v=v then some b.t else df s v:=by
 unfold df;by_cases h:b.v=v
 ·simp[h]
 ·have:(b.v==v)=false:=by simp[h]
  simp[this,h,List.find?_cons]
theorem jI{v:Int}{t:T}:∀{s:List ar},df s v=some t→(⟨v,t⟩:ar)∈s
 |[],h=>by simp[df]at h
 |b::s,h=>by
  rw[tB]at h;split at h
  ·rename_i e;cases h;subst e;simp
  ·exact pg _ (jI h)
theorem uZ{v:Int}:∀{s:List ar},df s v=none↔∀b∈s,b.v≠v
 |[]=>by simp[df]
 |b::s=>by
  rw[tB];by_cases h:b.v=v
  ·simp[h]
  ·simp[h,uZ (s:=s)]
theorem tA{b:ar}:∀{s:List ar},hB s→b∈s→df s b.v=some b.t
 |[],_,h=>by simp at h
 |c::s,bt,h=>by
  rw[tB];have mN:=mB.1 bt;rcases fY.1 h with rfl|h
  ·simp
  ·have:=mN.1 b h;rw[if_neg (by omega)];exact tA mN.2 h
theorem M8:∀{s ai:List ar},hB s→hB ai→(∀v,df s v=df ai v)→s=ai
 |[],[],_,_,_=>rfl
 |[],c::ai,_,_,h=>by have:=h c.v;rw[tB]at this;simp[df]at this
 |c::s,[],_,_,h=>by have:=h c.v;rw[tB]at this;simp[df]at this
 |b::s,c::ai,bt,ad,h=>by
  have fP:=mB.1 ad;have mN:=mB.1 bt;have J:(⟨b.v,b.t⟩:ar)∈c::ai:=jI (by rw[←h b.v,tB];simp);have U:(⟨c.v,c.t⟩:ar)∈b::s:=jI (by rw[h c.v,tB];simp);have Rb:b=c:=by
   rcases fY.1 J with e|e
   ·exact e
   ·rcases fY.1 U with aC|aC
    ·exact aC.symm
    ·have a6:=fP.1 _ e;have bE:=mN.1 _ aC;simp only at a6 bE;omega
  subst Rb;rw[M8 mN.2 fP.2 fun v=>?_];have:=h v;rw[tB,tB]at this;by_cases e:b.v=v
  ·have kL:df s v=none:=uZ.2 fun x ae=>by have:=mN.1 x ae;omega
   have z2:df ai v=none:=uZ.2 fun x ae=>by have:=fP.1 x ae;omega
   rw[kL,z2]
  ·simpa[e]using this
theorem akg{s:List ar}(bt:hB s){aN:Int→T}:gL s aN↔∀v,aN v=(bR s v).ap aN:=by
 constructor
 ·intro h v;unfold bR;cases e:df s v with
  |none=>rfl
  |some t=>exact h _ (jI e)
 ·intro h b ad;have:=h b.v;rw[bR,tA bt ad]at this;exact this
theorem LS{s:List ar}{aN:Int→T}(h:gL s aN)(t:T):t.ap aN=(t.ap (bR s)).ap aN:=by
 rw[AU];refine tx fun v _=>?_;unfold bR;cases e:df s v with
 |none=>rfl
 |some t=>exact h _ (jI e)
theorem ajX{s:List ar}(ag:fB s){t:T}(h:∀w,t.occ w=true→df s w=none):t.ap (bR s)=t:=M6 fun v aG=>by simp[bR,h v aG]
theorem yc{s:List ar}(ag:fB s):gL s (bR s):=fun b ad=>by rw[ajX ag (ag.free b ad),bR,tA ag.asc ad];rfl
theorem Kv{s ai:List ar}(ag:fB s)(gb:fB ai)(h:∀aN,gL ai aN→gL s aN){v:Int}(aG:df ai v=none):df s v=none:=by
 cases e:df s v with
 |none=>rfl
 |some t=>
  have J:=h _ (yc gb) _ (jI e);simp only[bR,aG,nm]at J;cases t with
  |var w=>
   have U:w<v:=ag.ori _ (jI e) w rfl;simp only[T.ap,bR]at J;cases bk:df ai w with
   |none=>rw[bk]at J;simp at J;omega
   |some u=>rw[bk]at J;simp only[j9]at J;subst J;have:=gb.ori _ (jI bk) v rfl;simp only at this;omega
  |_=>simp[T.ap]at J
theorem af8{s ai:List ar}(gb:fB ai)(h:∀aN,gL ai aN→gL s aN){v:Int}:(bR s v).size≤(bR ai v).size:=by
 have J:=h _ (yc gb);unfold bR;cases e:df s v with
 |none=>exact T.size_pos _
 |some t=>have:=J _ (jI e);show t.size≤(bR ai v).size;simp only at this;rw[this];exact Xx _ _
theorem akj{s ai:List ar}(ag:fB s)(gb:fB ai)(h:∀aN,gL s aN↔gL ai aN):s=ai:=by
 refine M8 ag.asc gb.asc fun v=>?_;have d1:∀w,df s w=none↔df ai w=none:=fun w=>⟨Kv gb ag (fun aN=>(h aN).1),Kv ag gb fun aN=>(h aN).2⟩;cases e:df s v with
 |none=>exact((d1 v).1 e).symm
 |some t=>
  cases fG:df ai v with
  |none=>rw[(d1 v).2 fG]at e;cases e
  |some dJ=>have J:=(h _).2 (yc gb) _ (jI e);simp only[bR,fG,j9]at J;rw[J];exact e2 some (M6 fun w hw=>by have:=(d1 w).1 (ag.free _ (jI e) w hw);simp[bR,this]).symm
def gi(s:List ar):Prop:=s.length≤400∧∀b∈s,b.t.size≤5000
theorem XH{s:List ar}(h:hB s):(s.map (·.v)).Nodup:=by rw[List.nodup_iff_pairwise_ne,List.pairwise_map];exact h.imp fun h=>by omega
theorem Qu{s ai:List ar}(ag:fB s)(gb:fB ai)(h:∀aN,gL ai aN→gL s aN)(aJ:gi ai):gi s:=by
 have aP:∀x∈s.map (·.v),x∈ai.map (·.v):=by
  intro x ae;obtain⟨b,ad,rfl⟩:=iP.1 ae;cases e:df ai b.v with
  |none=>have:=Kv ag gb h e;rw[tA ag.asc ad]at this;cases this
  |some t=>exact iP.2 ⟨_,jI e,rfl⟩
 have av:=MK (XH ag.asc) aP;simp only[List.length_map]at av;refine⟨j8 av aJ.1,fun b ad=>?_⟩;have J:=af8 (s:=s) gb h (v:=b.v);rw[bR,tA ag.asc ad]at J;obtain⟨c,au,e⟩:=iP.1 (aP b.v (iP.2 ⟨b,ad,rfl⟩));have U:=aJ.2 c au;rw[bR,←e,tA gb.asc au]at J;exact j8 J U
def jr(E:List (T×T))(aN:Int→T):Prop:= ∀e∈E,e.1.ap aN=e.2.ap aN
theorem Db(aN:Int→T):jr [] aN:=fun _ h=>by simp at h
theorem qD{e:T×T}{E:List (T×T)}{aN:Int→T}:jr (e::E) aN↔e.1.ap aN=e.2.ap aN∧jr E aN:=by simp[jr]
theorem Da{E wB:List (T×T)}{aN:Int→T}:jr (E++wB) aN↔jr E aN∧jr wB aN:=by simp only[jr,ky];exact⟨fun h=>⟨fun e he=>h e (.inl he),fun e he=>h e (.inr he)⟩,fun h e he=>he.elim (h.1 e) (h.2 e)⟩
def iw(s:List ar)(E:List (T×T)):aY (List ar)→Prop
 |some ai=>(fB ai∧gi ai)∧∀aN,gL ai aN↔gL s aN∧jr E aN
 |none=> ∀ai,fB ai→(∀aN,gL ai aN→gL s aN∧jr E aN)→¬gi ai
theorem Xo{s:List ar}{E:List (T×T)}:∀{o o':aY (List ar)},iw s E o→iw s E o'→o=o'
 |none,none,_,_=>rfl
 |some s1,none,h,ca=>absurd h.1.2 (ca s1 h.1.1 fun aN=>(h.2 aN).1)
 |none,some s1,ca,h=>absurd h.1.2 (ca s1 h.1.1 fun aN=>(h.2 aN).1)
 |some s1,some s2,h,ca=>by rw[akj h.1.1 ca.1.1 fun aN=>(h.2 aN).trans (ca.2 aN).symm]
theorem AS{s s2:List ar}{E MN:List (T×T)}(h:∀aN,(gL s aN∧jr E aN)↔(gL s2 aN∧jr MN aN)):∀{o:aY (List ar)},iw s E o→iw s2 MN o
 |none,aK=>fun ai J U=>aK ai J fun aN hk=>(h aN).2 (U aN hk)
 |some s1,aK=>⟨aK.1,fun aN=>(aK.2 aN).trans (h aN)⟩
theorem MV{s s1:List ar}{E wB:List (T×T)}(h:iw s E (some s1)):∀{o:aY (List ar)},iw s1 wB o→iw s (E++wB) o
 |none,aK=>fun ai J U=>aK ai J fun aN hk=>⟨(h.2 aN).2 ⟨(U aN hk).1,(Da.1 (U aN hk).2).1⟩,(Da.1 (U aN hk).2).2⟩
 |some s2,aK=>⟨aK.1,fun aN=>by rw[aK.2 aN,h.2 aN,Da,and_assoc]⟩
theorem Hd{s:List ar}{E:List (T×T)}(wB:List (T×T))(h:iw s E none):iw s (E++wB) none:=fun ai J U=>h ai J fun aN hk=>⟨(U aN hk).1,(Da.1 (U aN hk).2).1⟩
theorem DI{s:List ar}{E:List (T×T)}(h:∀aN,gL s aN→¬jr E aN):iw s E none:=fun ai J U=>absurd (U _ (yc J)).2 (h _ (U _ (yc J)).1)
theorem He{s:List ar}(ag:fB s)(aJ:gi s):iw s [] (some s):=⟨⟨ag,aJ⟩,fun aN=>⟨fun h=>⟨h,Db aN⟩,fun h=>h.1⟩⟩
def one(v:Int)(x:T)(w:Int):T:=if w=v then x else .var w
def oh(b:ar):List ar→List ar
 |[]=>[b]
 |c::s=>if b.v<c.v then b::c::s else c::oh b s
def l5(s:List ar)(v:Int)(x:T):List ar:=oh ⟨v,x⟩ (s.map fun b=>⟨b.v,b.t.ap (one v x)⟩)
theorem Kn{b x:ar}:∀{s:List ar},x∈oh b s↔x=b∨x∈s
 |[]=>by simp[oh]
 |c::s=>by
  simp only[oh];split
  ·simp
  ·simp only[fY,Kn (s:=s)];constructor
   ·rintro(h|h|h)
    ·exact .inr (.inl h)
    ·exact .inl h
    ·exact .inr (.inr h)
   ·rintro(h|h|h)
    ·exact .inr (.inl h)
    ·exact .inl h
    ·exact .inr (.inr h)
theorem Te{b:ar}:∀{s:List ar},(oh b s).length=s.length+1
 |[]=>rfl
 |c::s=>by simp only[oh];split<;>simp[Te]
theorem M9{b:ar}:∀{s:List ar},hB s→(∀c∈s,c.v≠b.v)→hB (oh b s)
 |[],_,_=>by simp[oh]
 |c::s,bt,aA=>by
  have mN:=mB.1 bt;simp only[oh];split
  ·rename_i bD;refine mB.2 ⟨fun x ae=>?_,bt⟩;rcases fY.1 ae with rfl|ae
   ·exact bD
   ·have:=mN.1 x ae;omega
  ·rename_i tT;refine mB.2 ⟨fun x ae=>?_,M9 mN.2 fun c au=>aA c (by simp[au])⟩;rcases Kn.1 ae with rfl|ae
   ·have:=aA c (by simp);omega
   ·exact mN.1 x ae
theorem pS{s:List ar}{v:Int}{x:T}{b:ar}:b∈l5 s v x↔b=⟨v,x⟩∨ ∃c∈s,b=⟨c.v,c.t.ap (one v x)⟩:=by unfold l5;rw[Kn,iP];refine or_congr Iff.rfl ⟨fun⟨c,J,U⟩=>⟨c,J,U.symm⟩,fun⟨c,J,U⟩=>⟨c,J,U.symm⟩⟩
theorem T9{v:Int}{x:T}{aN:Int→T}(h:aN v=x.ap aN)(t:T):(t.ap (one v x)).ap aN=t.ap aN:=by
 rw[AU];refine tx fun w _=>?_;unfold one;split
 ·rename_i e;subst e;exact h.symm
 ·rfl
theorem DL{s:List ar}{v w:Int}{x:T}:df (l5 s v x) w=none↔w≠v∧df s w=none:=by
 rw[uZ,uZ];constructor
 ·intro h;exact⟨fun e=>h ⟨v,x⟩ (pS.2 (.inl rfl)) e.symm,fun b ad=>h ⟨b.v,b.t.ap (one v x)⟩ (pS.2 (.inr ⟨b,ad,rfl⟩))⟩
 ·rintro⟨J,U⟩ b ad;rcases pS.1 ad with rfl|⟨c,au,rfl⟩
  ·exact fun e=>J e.symm
  ·exact U c au
theorem LQ{s:List ar}(ag:fB s){t:T}{w:Int}(h:(t.ap (bR s)).occ w=true):df s w=none:=by
 obtain⟨u,_,U⟩:=Cz.1 h;unfold bR at U;cases e:df s u with
 |none=>rw[e]at U;simp[T.occ]at U;subst U;exact e
 |some t=>rw[e]at U;exact ag.free _ (jI e) w U
theorem aki{s:List ar}(ag:fB s){v:Int}{t:T}(aG:df s v=none)(ax:(t.ap (bR s)).occ v=false)(sD:∀w,t.ap (bR s)= .var w→w<v):fB (l5 s v (t.ap (bR s))):=by
 have ae:∀w,(t.ap (bR s)).occ w=true→df (l5 s v (t.ap (bR s))) w=none:=fun w hw=>DL.2 ⟨fun e=>(by subst e;rw[ax]at hw;cases hw),LQ ag hw⟩;refine⟨M9 ?_ ?_,fun b ad w hw=>?_,fun b ad w hw=>?_⟩
 ·rw[hB,List.pairwise_map];exact ag.asc
 ·intro c au;obtain⟨b,ad,rfl⟩:=iP.1 au;exact uZ.1 aG b ad
 ·rcases pS.1 ad with rfl|⟨c,au,rfl⟩
  ·exact ae w hw
  ·obtain⟨u,J,U⟩:=Cz.1 hw;unfold one at U;split at U
   ·exact ae w U
   ·rename_i cF;simp[T.occ]at U;subst U;exact DL.2 ⟨cF,ag.free c au _ J⟩
 ·rcases pS.1 ad with rfl|⟨c,au,rfl⟩
  ·exact sD w hw
  ·simp only at hw⊢;cases e:c.t with
   |var u=>
    have:=ag.ori c au u e;rw[e]at hw;simp only[T.ap,one]at hw;split at hw
    ·rename_i aC;subst aC;have:=sD w hw;omega
    ·cases hw;exact this
   |_=>rw[e]at hw;simp[T.ap]at hw
theorem VK{s:List ar}{v:Int}{t:T}(aN:Int→T):gL (l5 s v (t.ap (bR s))) aN↔gL s aN∧jr [(.var v,t)] aN:=by
 have ak:jr [(.var v,t)] aN↔aN v=t.ap aN:=by simp[jr,T.ap]
 rw[ak];constructor
 ·intro h;have bA:aN v=(t.ap (bR s)).ap aN:=h _ (pS.2 (.inl rfl));have J:gL s aN:=fun b ad=>by have:=h _ (pS.2 (.inr ⟨b,ad,rfl⟩));simp only at this;rw[T9 bA]at this;exact this
  exact⟨J,by rw[LS J t];exact bA⟩
 ·rintro⟨J,U⟩ b ad;have bA:aN v=(t.ap (bR s)).ap aN:=by rw[←LS J t];exact U
  rcases pS.1 ad with rfl|⟨c,au,rfl⟩
  ·exact bA
  ·simp only;rw[T9 bA];exact J c au
open Classical in
theorem Xl{s:List ar}(ag:fB s){v:Int}{t:T}(aG:df s v=none)(ax:(t.ap (bR s)).occ v=false)(sD:∀w,t.ap (bR s)= .var w→w<v):iw s [(.var v,t)] (if gi (l5 s v (t.ap (bR s)))then some (l5 s v (t.ap (bR s)))else none):=by
 have J:=aki ag aG ax sD;split
 ·rename_i aJ;exact⟨⟨J,aJ⟩,VK⟩
 ·rename_i aJ;exact fun ai U ao ba=>aJ (Qu J U (fun aN hk=>(VK aN).2 (ao aN hk)) ba)
def hc(s:List ar):T→T
 | .var n=>bR s n
 |t=>t
def nr(s:List ar)(v:Int)(t:T):aY (List ar):=if(t.ap (bR s)).size≤5000∧(t.ap (bR s)).occ v=false∧s.length<400∧∀b∈s,(b.t.ap (one v (t.ap (bR s)))).size≤5000 then some (l5 s v (t.ap (bR s)))else none
def jS(rec:List ar→T→T→aY (aY (List ar)))(s:List ar):T→T→aY (aY (List ar))
 | .var i,.var j=>some (if i<j then nr s j (.var i)else if i=j then some s else nr s i (.var j))
 | .var i,y=>some (nr s i y)
 |x,.var j=>some (nr s j x)
 | .pair bC a2,.pair ch b6=>match rec s bC ch with
  |none=>none
  |some none=>some none
  |some (some s1)=>rec s1 a2 b6
 |x,y=>some (if x=y then some s else none)
def ku:Nat→List ar→T→T→aY (aY (List ar))
 |0,_,_,_=>none
 |n+1,s,a,b=>jS (ku n) s (hc s a) (hc s b)
theorem akL{rec Ls:List ar→T→T→aY (aY (List ar))}(h:∀s a b o,rec s a b=some o→Ls s a b=some o){s:List ar}{x y:T}{o:aY (List ar)}(he:jS rec s x y=some o):jS Ls s x y=some o:=by
 cases x<;>cases y<;>simp only[jS]at he⊢ <;>try exact he
 rename_i bC a2 ch b6;cases e:rec s bC ch with
 |none=>rw[e]at he;cases he
 |some gP=>
  rw[e]at he;rw[h _ _ _ _ e];cases gP with
  |none=>exact he
  |some s1=>exact h _ _ _ _ he
theorem Dg:∀{n m:Nat} {s:List ar} {a b:T} {o:aY (List ar)},n≤m→ku n s a b=some o→ku m s a b=some o
 |0,_,_,_,_,_,_,h=>by simp[ku]at h
 |n+1,0,_,_,_,_,hm,_=>by omega
 |n+1,m+1,s,a,b,o,hm,h=>by simp only[ku]at h⊢;exact akL (fun s a b o h=>Dg (by omega) h) h
theorem Iy{s:List ar}{v:Int}{x:T}:gi (l5 s v x)↔(x.size≤5000∧s.length<400∧∀b∈s,(b.t.ap (one v x)).size≤5000):=by
 have av:(l5 s v x).length=s.length+1:=by simp[l5,Te]
 unfold gi;rw[av];constructor
 ·rintro⟨J,U⟩;exact⟨U _ (pS.2 (.inl rfl)),by omega,fun b ad=>U _ (pS.2 (.inr ⟨b,ad,rfl⟩))⟩
 ·rintro⟨J,U,ao⟩;refine⟨by omega,fun b ad=>?_⟩;rcases pS.1 ad with rfl|⟨c,au,rfl⟩
  ·exact J
  ·exact ao c au
theorem Xm{s:List ar}(ag:fB s){v:Int}{t:T}(aG:df s v=none)(cF:t.ap (bR s)≠ .var v)(sD:∀w,t.ap (bR s)= .var w→w<v):iw s [(.var v,t)] (nr s v t):=by
 unfold nr;cases ax:(t.ap (bR s)).occ v with
 |true=>
  rw[if_neg (by simp)];refine DI fun aN J U=>?_;have ao:=(qD.1 U).1;simp only[T.ap]at ao;rw[LS J t]at ao;have ab:(t.ap (bR s)).kind≠1:=by
   intro ab;cases e:t.ap (bR s)with
   |var w=>rw[e]at ax;simp[T.occ]at ax;subst ax;exact cF e
   |_=>rw[e]at ab;simp[T.kind]at ab
  have:=(zP aN ax).2 ab;rw[←ao]at this;omega
 |false=>
  have J:=Xl ag aG ax sD;by_cases aJ:gi (l5 s v (t.ap (bR s)))
  ·rw[if_pos aJ]at J;rw[if_pos ⟨(Iy.1 aJ).1,rfl,(Iy.1 aJ).2⟩];exact J
  ·rw[if_neg aJ]at J;rw[if_neg fun h=>aJ (Iy.2 ⟨h.1,h.2.2⟩)];exact J
theorem WL{s:List ar}(ag:fB s){t:T}{i:Int}(h:hc s t= .var i):df s i=none:=by
 cases t with
 |var n=>
  simp only[hc,bR]at h;cases e:df s n with
  |none=>rw[e]at h;simp at h;subst h;exact e
  |some u=>rw[e]at h;simp at h;subst h;exact ag.free _ (jI e) i (by simp[T.occ])
 |_=>simp[hc]at h
theorem MA{s:List ar}{aN:Int→T}(h:gL s aN)(t:T):(hc s t).ap aN=t.ap aN:=by
 cases t with
 |var n=>
  simp only[hc,T.ap,bR];cases e:df s n with
  |none=>rfl
  |some u=>exact(h _ (jI e)).symm
 |_=>rfl
theorem WN{s:List ar}(ag:fB s)(t:T):(hc s t).ap (bR s)=t.ap (bR s):=MA (yc ag) t
def pK(V:List Int)(t:T):Prop:= ∀w,t.occ w=true→w∈V
def xz(V:List Int)(s:List ar):Prop:= ∀b∈s,b.v∈V∧pK V b.t
def yJ(V:List Int)(s:List ar):Nat:=(V.filter fun v=>(df s v).isNone).length
theorem Qt{α:Type}{p q:α→Bool}{v:α}:∀{V:List α},(∀x∈V,q x=true→p x=true)→v∈V→p v=true→q v=false→(V.filter q).length<(V.filter p).length
 |[],_,h,_,_=>by simp at h
 |x::V,h,aG,bI,br=>by
  have hle:∀W:List α,(∀x∈W,q x=true→p x=true)→(W.filter q).length≤(W.filter p).length:=by
   intro W;induction W with
   |nil=>intro _;simp
   |cons y W bU=>intro Br;have:=bU fun x ae=>Br x (by simp[ae]);have aL:=Br y (by simp);simp only[List.filter_cons];cases e:q y<;>cases aC:p y<;>simp_all<;>omega
  simp only[List.filter_cons];rcases fY.1 aG with rfl|aG
  ·have:=hle V fun x ae=>h x (by simp[ae]);simp[bI,br];omega
  ·have:=Qt (fun x ae=>h x (pg _ ae)) aG bI br;have ae:=h x (by simp);cases e:q x<;>cases aC:p x<;>simp_all<;>omega
theorem YH{V:List Int}{s:List ar}{v:Int}{x:T}(aG:v∈V)(aA:df s v=none):yJ V (l5 s v x)<yJ V s:=by
 unfold yJ;refine Qt (v:=v) (fun w _ h=>?_) aG (by simp[aA]) ?_
 ·rw[Option.isNone_iff_eq_none,DL]at h;simp[h.2]
 ·cases e:df (l5 s v x) v with
  |none=>exact absurd rfl (DL.1 e).1
  |some _=>rfl
theorem Sg{V:List Int}{s:List ar}(h:xz V s){t:T}(aO:pK V t):pK V (t.ap (bR s)):=fun w hw=>by
 obtain⟨u,J,U⟩:=Cz.1 hw;unfold bR at U;cases e:df s u with
 |none=>rw[e]at U;simp[T.occ]at U;subst U;exact aO _ J
 |some x=>rw[e]at U;exact(h _ (jI e)).2 w U
theorem aeJ{V:List Int}{s:List ar}(h:xz V s){v:Int}{x:T}(aG:v∈V)(ae:pK V x):xz V (l5 s v x):=fun b ad=>by
 rcases pS.1 ad with rfl|⟨c,au,rfl⟩
 ·exact⟨aG,ae⟩
 ·refine⟨(h c au).1,fun w hw=>?_⟩;obtain⟨u,J,U⟩:=Cz.1 hw;unfold one at U;split at U
  ·exact ae w U
  ·simp[T.occ]at U;subst U;exact(h c au).2 _ J
theorem Sh{V:List Int}{s:List ar}(h:xz V s){t:T}(aO:pK V t):pK V (hc s t):=by
 cases t with
 |var n=>have:=Sg h aO;simpa[hc,T.ap]using this
 |_=>exact aO
def AR(V:List Int)(s:List ar)(a b:T)(o:aY (List ar)):Prop:=iw s [(a,b)] o∧∀ai,o=some ai→xz V ai∧(ai=s∨yJ V ai<yJ V s)
theorem Dh{V:List Int}{s:List ar}(ag:fB s)(jY:xz V s){v:Int}{t a b:T}(aG:v∈V)(aO:pK V t)(aA:df s v=none)(cF:t.ap (bR s)≠ .var v)(sD:∀w,t.ap (bR s)= .var w→w<v)(au:∀aN,gL s aN→(aN v=t.ap aN↔a.ap aN=b.ap aN)):AR V s a b (nr s v t):=by
 refine⟨AS (fun aN=>?_) (Xm ag aA cF sD),fun ai h=>?_⟩
 ·refine and_congr_right fun h=>?_;rw[qD,qD];simp only[T.ap,au aN h]
 ·unfold nr at h;split at h
  ·cases h;exact⟨aeJ jY aG (Sg jY aO),.inr (YH aG aA)⟩
  ·cases h
theorem Am{s:List ar}{i:Int}(h:df s i=none):bR s i= .var i:=by simp[bR,h]
theorem Wh(V:List Int)(k:Nat):∀(m:Nat) (s:List ar) (a b:T),fB s→gi s→xz V s→pK V a→pK V b→yJ V s=k→(a.ap (bR s)).size+(b.ap (bR s)).size=m→
  ∃n o,ku n s a b=some o∧AR V s a b o:=by
 induction k using Nat.strongRecOn with
 |ind k JJ=>
 intro m;induction m using Nat.strongRecOn with
 |ind m zv=>
 intro s a b ag aJ jY bt ad ab hm;have ae:=Sh jY bt;have aL:=Sh jY ad;have L2:=WN ag a;have L3:=WN ag b;have tz:=fun aN (h:gL s aN)=>MA h a;have np:=fun aN (h:gL s aN)=>MA h b;have qm:=fun i=>WL ag (t:=a) (i:=i);have IC:=fun i=>WL ag (t:=b) (i:=i);have key:∀(rec:List ar→T→T→aY (aY (List ar))) (o:aY (List ar)),jS rec s (hc s a) (hc s b)=some o→(∀bC a2 ch b6,hc s a= .pair bC a2→hc s b= .pair ch b6→AR V s a b o)→AR V s a b o:=by
  intro rec o he bI;cases ex:hc s a with
  |var i=>
   have El:=qm i ex;have qe:=fun aN h=>(tz aN h).symm.trans (by rw[ex]);cases hT:hc s b with
   |var j=>
    have wY:=IC j hT;have oN:=fun aN h=>(np aN h).symm.trans (by rw[hT]);rw[ex,hT]at he;simp only[jS]at he;have hi:i∈V:=by rw[ex]at ae;exact ae i (by simp[T.occ])
    have af:j∈V:=by rw[hT]at aL;exact aL j (by simp[T.occ])
    rcases Int.lt_trichotomy i j with h|h|h
    ·rw[if_pos h]at he;cases he;refine Dh ag jY af (by rw[ex]at ae;exact ae) wY (by simp[T.ap,Am El];omega) (fun w hw=>by simp[T.ap,Am El]at hw;omega) fun aN hk=>?_;rw[qe aN hk,oN aN hk];simp only[T.ap];exact⟨Eq.symm,Eq.symm⟩
    ·subst h;rw[if_neg (by omega),if_pos rfl]at he;cases he;refine⟨⟨⟨ag,aJ⟩,fun aN=>⟨fun h=>⟨h,qD.2 ⟨?_,Db aN⟩⟩,fun h=>h.1⟩⟩,fun ai e=>by cases e;exact⟨jY,.inl rfl⟩⟩;simp only;rw[qe aN h,oN aN h]
    ·rw[if_neg (by omega),if_neg (by omega)]at he;cases he;refine Dh ag jY hi (by rw[hT]at aL;exact aL) El (by simp[T.ap,Am wY];omega) (fun w hw=>by simp[T.ap,Am wY]at hw;omega) fun aN hk=>?_;rw[qe aN hk,oN aN hk];simp only[T.ap]
   |_=>have oN:=fun aN h=>(np aN h).symm.trans (by rw[hT]);rw[ex,hT]at he;simp only[jS]at he;cases he;refine Dh ag jY (by rw[ex]at ae;exact ae i (by simp[T.occ])) (by rw[hT]at aL;exact aL) El (by simp[T.ap]) (fun w hw=>by simp[T.ap]at hw) fun aN hk=>?_;rw[qe aN hk,oN aN hk];simp only[T.ap]
  |pair bC a2=>
   cases hT:hc s b with
   |pair ch b6=>exact bI bC a2 ch b6 ex hT
   |var j=>have wY:=IC j hT;have qe:=fun aN h=>(tz aN h).symm.trans (by rw[ex]);have oN:=fun aN h=>(np aN h).symm.trans (by rw[hT]);rw[ex,hT]at he;simp only[jS]at he;cases he;refine Dh ag jY (by rw[hT]at aL;exact aL j (by simp[T.occ])) (by rw[ex]at ae;exact ae) wY (by simp[T.ap]) (fun w hw=>by simp[T.ap]at hw) fun aN hk=>?_;rw[qe aN hk,oN aN hk];simp only[T.ap];exact⟨Eq.symm,Eq.symm⟩
   |_=>have qe:=fun aN h=>(tz aN h).symm.trans (by rw[ex]);have oN:=fun aN h=>(np aN h).symm.trans (by rw[hT]);rw[ex,hT]at he;simp only[jS]at he;simp at he;subst he;refine⟨DI fun aN J U=>?_,fun ai e=>by cases e⟩;have:=(qD.1 U).1;simp only at this;rw[qe aN J,oN aN J]at this;simp[T.ap]at this
  |_=>
   have qe:=fun aN h=>(tz aN h).symm.trans (by rw[ex]);cases hT:hc s b with
   |var j=>have wY:=IC j hT;have oN:=fun aN h=>(np aN h).symm.trans (by rw[hT]);rw[ex,hT]at he;simp only[jS]at he;cases he;refine Dh ag jY (by rw[hT]at aL;exact aL j (by simp[T.occ])) (by rw[ex]at ae;exact ae) wY (by simp[T.ap]) (fun w hw=>by simp[T.ap]at hw) fun aN hk=>?_;rw[qe aN hk,oN aN hk];simp only[T.ap];exact⟨Eq.symm,Eq.symm⟩
   |_=>
    have oN:=fun aN h=>(np aN h).symm.trans (by rw[hT]);rw[ex,hT]at he;simp only[jS,dG]at he;split at he
    ·rename_i e;subst he;refine⟨⟨⟨ag,aJ⟩,fun aN=>⟨fun h=>⟨h,qD.2 ⟨?_,Db aN⟩⟩,fun h=>h.1⟩⟩,fun ai e=>by cases e;exact⟨jY,.inl rfl⟩⟩;simp only;rw[qe aN h,oN aN h];try rw[e]
    ·rename_i e;subst he;refine⟨DI fun aN J U=>?_,fun ai e=>by cases e⟩;have:=(qD.1 U).1;simp only at this;rw[qe aN J,oN aN J]at this;simp[T.ap]at this e;try exact e this
 by_cases EV:∃bC a2 ch b6,hc s a= .pair bC a2∧hc s b= .pair ch b6
 ·obtain⟨bC,a2,ch,b6,ex,hT⟩:=EV;have dX:(bC.ap (bR s)).size+(ch.ap (bR s)).size<m∧(a2.ap (bR s)).size+(b6.ap (bR s)).size<m:=by rw[ex]at L2;rw[hT]at L3;simp only[T.ap]at L2 L3;rw[←hm,←L2,←L3];simp only[T.size];omega
  have kT:pK V bC:=fun w hw=>by rw[ex]at ae;exact ae w (by simp[T.occ,hw])
  have pD:pK V a2:=fun w hw=>by rw[ex]at ae;exact ae w (by simp[T.occ,hw])
  have lf:pK V ch:=fun w hw=>by rw[hT]at aL;exact aL w (by simp[T.occ,hw])
  have oZ:pK V b6:=fun w hw=>by rw[hT]at aL;exact aL w (by simp[T.occ,hw])
  have Rj:∀aN,(gL s aN∧jr ([(bC,ch)]++[(a2,b6)]) aN)↔(gL s aN∧jr [(a,b)] aN):=fun aN=>and_congr_right fun h=>by simp only[List.singleton_append,qD,Db,and_true];rw[←tz aN h,←np aN h,ex,hT];simp[T.ap]
  obtain⟨hW,gP,ak,cO⟩:=zv _ dX.1 s bC ch ag aJ jY kT lf ab rfl;cases gP with
  |none=>refine⟨hW+1,none,?_,AS Rj (Hd _ cO.1),fun ai e=>by cases e⟩;simp only[ku,ex,hT,jS,ak]
  |some s1=>
   obtain⟨v1,v2⟩:=cO.2 s1 rfl;have BU:∃gf gG,ku gf s1 a2 b6=some gG∧AR V s1 a2 b6 gG:=by
    rcases v2 with rfl|v2
    ·exact zv _ dX.2 _ a2 b6 ag aJ jY pD oZ ab rfl
    ·exact JJ _ (by omega) _ s1 a2 b6 cO.1.1.1 cO.1.1.2 v1 pD oZ rfl rfl
   obtain⟨gf,gG,aC,dp⟩:=BU;refine⟨max hW gf+1,gG,?_,AS Rj (MV cO.1 dp.1),fun ai e=>?_⟩
   ·simp only[ku,ex,hT,jS,Dg (Nat.le_max_left hW gf) ak];exact Dg (Nat.le_max_right hW gf) aC
   ·obtain⟨ec,ds⟩:=dp.2 ai e;refine⟨ec,?_⟩;rcases v2 with rfl|v2
    ·exact ds
    ·rcases ds with rfl|ds
     ·exact .inr v2
     ·exact .inr (by omega)
 ·have RN:∀bC a2 ch b6,hc s a= .pair bC a2→hc s b= .pair ch b6→eK:=fun bC a2 ch b6 J U=>EV ⟨bC,a2,ch,b6,J,U⟩;have:∃o,jS (ku 0) s (hc s a) (hc s b)=some o:=by cases ex:hc s a<;>cases hT:hc s b<;>simp only[jS]<;>first|exact⟨_,rfl⟩|exact(RN _ _ _ _ ex hT).elim
  obtain⟨o,ax⟩:=this;exact⟨1,o,ax,key _ o ax fun bC a2 ch b6 J U=>(RN bC a2 ch b6 J U).elim⟩
def c3{α:Type}(k:Int):List (Int×α)→aY α
 |[]=>none
 |(i,v)::r=>if k=i then some v else c3 k r
def eJ{α:Type}(k:Int)(v:α):List (Int×α)→List (Int×α)
 |[]=>[(k,v)]
 |(i,w)::r=>if k=i then(i,v)::r else(i,w)::eJ k v r
def ct{α:Type}(m:List (Int×α)):List Int:=m.map (·.1)
theorem ng{α:Type}(k:Int)(v:α)(j:Int):∀m:List (Int×α),c3 j (eJ k v m)=if j=k then some v else c3 j m
 |[]=>by simp only[eJ,c3]
 |(i,w)::r=>by
  simp only[eJ];by_cases h:k=i
  ·subst h;by_cases U:j=k<;>simp[c3,U]
  ·by_cases U:j=i
   ·subst U;have:¬j=k:=fun e=>h e.symm;simp[c3,h,this]
   ·simp[c3,h,U,ng k v j r]
theorem GI{α:Type}{k:Int}:∀{m:List (Int×α)},(c3 k m).isSome=true↔k∈ct m
 |[]=>by simp[c3,ct]
 |(i,w)::r=>by
  simp only[c3,ct,hf,fY];by_cases h:k=i
  ·simp[h]
  ·simp only[h,if_false,false_or];exact GI
theorem akG{α:Type}{k:Int}{m:List (Int×α)}:c3 k m=none↔k∉ct m:=by rw[←GI];cases c3 k m<;>simp
theorem Cf{α:Type}{k:Int}{v:α}:∀{m:List (Int×α)},k∈ct m→ct (eJ k v m)=ct m
 |[],h=>by simp[ct]at h
 |(i,w)::r,h=>by
  simp only[eJ];by_cases e:k=i
  ·simp[e,ct]
  ·rw[if_neg e];have ca:k∈ct r:=by simpa[ct,e]using h
   have:=Cf (v:=v) ca;simp only[ct]at this⊢;simp[this]
theorem SL{α:Type}{k:Int}{v:α}:∀{m:List (Int×α)},k∉ct m→ct (eJ k v m)=ct m++[k]
 |[],h=>by simp[ct,eJ]
 |(i,w)::r,h=>by have e:¬k=i:=fun e=>h (by simp[ct,e]);have ca:k∉ct r:=fun ab=>h (by simp[ct]at ab⊢;exact .inr ab);have:=SL (v:=v) ca;simp only[eJ,if_neg e];simp only[ct]at this⊢;simp[this]
structure bs where
 up:List (Int×Int)
 shape:List (Int×T)
 shaped:List (Int×Bool)
 color:List (Int×Int)
 size:List (Int×Int)
 full:List (Int×T)
def bs.shd(c:bs)(x:Int):Bool:=(c3 x c.shaped).getD false
def bs.shp(c:bs)(x:Int):T:=(c3 x c.shape).getD .nil
def bs.col(c:bs)(x:Int):Int:=(c3 x c.color).getD 0
def bs.sz(c:bs)(x:Int):Int:=(c3 x c.size).getD 0
def iM(m:List (Int×Int))(v:Int):Int:=(c3 v m).getD 0
def we:Nat→List (Int×Int)→Int→aY (Int×List (Int×Int))
 |0,_,_=>none
 |n+1,m,v=>if iM m v=v then some (v,m)else we n (eJ v (iM m (iM m v)) m) (iM (eJ v (iM m (iM m v)) m) v)
def yw(v:Int)(m:List (Int×Int)):List (Int×Int):=if(c3 v m).isSome then m else eJ v v m
def rt(c:bs)(v:Int):aY (Int×bs):=(we (v.toNat+1) (yw v c.up) v).map fun p=>(p.1,{c with up:=p.2})
def T.foldO{α:Type}(f:Int→α→aY α):T→α→aY α
 | .var n,a=>f n a
 | .pair x y,a=>(x.foldO f a).bind (y.foldO f)
 |_,a=>some a
def T.mapO{α:Type}(f:Int→α→aY (T×α)):T→α→aY (T×α)
 | .var n,a=>f n a
 | .pair x y,a=>(x.mapO f a).bind fun p=>(y.mapO f p.2).map fun q=>(.pair p.1 q.1,q.2)
 |t,a=>some (t,a)
def T.sizeO{α:Type}(f:Int→α→aY (Int×α)):T→α→aY (Int×α)
 | .var n,a=>(f n a).map fun p=>(if 5001<p.1 then 5001 else p.1,p.2)
 | .pair x y,a=>(x.sizeO f a).bind fun p=>if 5000<p.1 then some p else(y.sizeO f p.2).map fun q=>(if 5001<1+p.1+q.1 then 5001 else 1+p.1+q.1,q.2)
 |_,a=>some (1,a)
def zG(t:T)(c:bs):aY bs:=t.foldO (fun v c=>(rt c v).map (·.2)) c
structure tp where
 c:bs
 seen:List (Int×Bool)
 found:Bool
def wc(rec:T→bs→List (Int×Bool)→aY tp)(x:Int)(v:Int)(a:tp):aY tp:=
 (rt a.c v).bind fun p=>if a.found=true∨p.1=x then some ⟨p.2,a.seen,true⟩
  else if(c3 p.1 a.seen).getD false=false∧p.2.shd p.1=true then rec (p.2.shp p.1) p.2 (eJ p.1 true a.seen)
  else some ⟨p.2,a.seen,a.found⟩
def pa:Nat→Int→T→bs→List (Int×Bool)→aY tp
 |0,_,_,_,_=>none
 |n+1,x,t,c,seen=>t.foldO (wc (pa n x) x) ⟨c,seen,false⟩
def bs.know(c:bs)(x:Int)(t:T):bs:={c with shape:=eJ x t c.shape,shaped:=eJ x true c.shaped}
def uj(n:Nat)(x:Int)(t:T)(c:bs):aY (Bool×bs):=(pa n x t (c.know x t) []).map fun a=>(!a.found,a.c)
def bs.join(c:bs)(x y:Int):bs:={c with up:=eJ y x c.up}
def qY(rec:T→T→bs→aY (Bool×bs))(n:Nat)(x y:Int)(c:bs):aY (Bool×bs):=
 if c.shd y=false then
  (if c.shd x=false then some (true,c)else(pa n x (c.shp x) c []).map fun a=>(!a.found,a.c))
 else if c.shd x=false then uj n x (c.shp y) c
 else(pa n x (c.shp y) c []).bind fun a=>if a.found=true then some (false,a.c)else
  (pa n x (a.c.shp x) a.c []).bind fun b=>if b.found=true then some (false,b.c)else rec (b.c.shp x) (c.shp y) b.c
def gv:Nat→T→T→bs→aY (Bool×bs)
 |0,_,_,_=>none
 |n+1,.var i,.var j,c=>(rt c i).bind fun p=>(rt p.2 j).bind fun q=>if p.1=q.1 then some (true,q.2)else if q.1<p.1 then qY (gv n) n q.1 p.1 (q.2.join q.1 p.1)else qY (gv n) n p.1 q.1 (q.2.join p.1 q.1)
 |n+1,.var i,b,c=>(rt c i).bind fun p=>if p.2.shd p.1=false then uj n p.1 b p.2 else gv n (p.2.shp p.1) b p.2
 |n+1,a,.var j,c=>gv n (.var j) a c
 |n+1,.pair bC a2,.pair ch b6,c=>(gv n bC ch c).bind fun p=>if p.1=true then gv n a2 b6 p.2 else some (false,p.2)
 |_+1,a,b,c=>some (decide (a=b),c)
structure jq (m:List (Int×Int)) (ρ:Int→Int):Prop where
 up:∀v u,c3 v m=some u→(0≤u∧u≤v∧u∈ct m)∧ρ u=ρ v∧(ρ v=v↔u=v)
 no:∀v,v∉ct m→ρ v=v
theorem jq.get{m:List (Int×Int)}{ρ:Int→Int}(h:jq m ρ){v:Int}(aG:v∈ct m):∃u,c3 v m=some u∧iM m v=u:=by have:=GI.2 aG;obtain⟨u,hu⟩:=fJ.1 this;exact⟨u,hu,by simp[iM,hu]⟩
theorem jq.root{m:List (Int×Int)}{ρ:Int→Int}(h:jq m ρ):∀(n:Nat) (v:Int),v.toNat≤n→(ρ v≤v∧ρ (ρ v)=ρ v∧(v∈ct m→ρ v∈ct m∧0≤ρ v)):=by
 intro n;induction n using Nat.strongRecOn with
 |ind n bU=>
 intro v aA;by_cases aG:v∈ct m
 ·obtain⟨u,J,_⟩:=h.get aG;obtain⟨⟨bC,a2,a3⟩,a4,a5⟩:=h.up v u J;by_cases e:u=v
  ·have:=a5.2 e;subst e;rw[this];exact⟨by omega,this,fun _=>⟨a3,bC⟩⟩
  ·obtain⟨ch,b6,fC⟩:=bU (u.toNat) (by omega) u (by omega);rw[←a4];exact⟨by omega,b6,fun _=>fC a3⟩
 ·have:=h.no v aG;rw[this];exact⟨by omega,this,fun h=>absurd h aG⟩
theorem jq.le{m:List (Int×Int)}{ρ:Int→Int}(h:jq m ρ)(v:Int):ρ v≤v:=(h.root v.toNat v (eR _)).1
theorem jq.idem{m:List (Int×Int)}{ρ:Int→Int}(h:jq m ρ)(v:Int):ρ (ρ v)=ρ v:=(h.root v.toNat v (eR _)).2.1
theorem jq.mem{m:List (Int×Int)}{ρ:Int→Int}(h:jq m ρ){v:Int}(aG:v∈ct m):ρ v∈ct m∧0≤ρ v:=(h.root v.toNat v (eR _)).2.2 aG
theorem Vz{ρ:Int→Int}:∀(n:Nat) (m:List (Int×Int)) (v:Int),jq m ρ→v∈ct m→v.toNat<n→∃hn,we n m v=some (ρ v,hn)∧jq hn ρ∧ct hn=ct m
 |0,_,_,_,_,aA=>by omega
 |n+1,m,v,h,aG,aA=>by
  obtain⟨u,J,U⟩:=h.get aG;obtain⟨⟨bC,a2,a3⟩,a4,a5⟩:=h.up v u J;simp only[we,U];by_cases e:u=v
  ·rw[if_pos e];have:=a5.2 e;exact⟨m,by rw[this],h,rfl⟩
  ·rw[if_neg e];obtain⟨x,g1,g2⟩:=h.get a3;obtain⟨⟨ch,b6,fC⟩,nW,Nd⟩:=h.up u x g1;rw[g2];have ab:=Cf (v:=x) aG;have lR:jq (eJ v x m) ρ:=by
    refine⟨fun w y hw=>?_,fun w hw=>h.no w (by rw[ab]at hw;exact hw)⟩;rw[ng]at hw;rw[ab];by_cases ew:w=v
    ·subst ew;rw[if_pos rfl]at hw;cases hw;refine⟨⟨ch,by omega,fC⟩,by rw[nW,a4],⟨fun aK=>absurd (a5.1 aK) e,fun ae=>?_⟩⟩;have:u=w:=by omega
     exact absurd this e
    ·rw[if_neg ew]at hw;exact h.up w y hw
   have aeq:iM (eJ v x m) v=x:=by simp[iM,ng]
   rw[aeq];obtain⟨hn,bH,cl,c9⟩:=Vz n (eJ v x m) x lR (by rw[ab];exact fC) (by omega);exact⟨hn,by rw[bH,nW,a4],cl,by rw[c9,ab]⟩
structure iv (ρ:Int→Int) (c cr:bs):Prop where
 ru:jq cr.up ρ
 keys:ct cr.up=ct c.up
 eq:cr={c with up:=cr.up}
theorem iv.refl{ρ:Int→Int}{c:bs}(h:jq c.up ρ):iv ρ c c:=⟨h,rfl,rfl⟩
theorem iv.trans{ρ:Int→Int}{a b c:bs}(h:iv ρ a b)(k:iv ρ b c):iv ρ a c:=⟨k.ru,k.keys.trans h.keys,by rw[k.eq,h.eq]⟩
theorem iv.shd{ρ:Int→Int}{c cr:bs}(h:iv ρ c cr)(x:Int):cr.shd x=c.shd x:=by rw[h.eq];rfl
theorem iv.shp{ρ:Int→Int}{c cr:bs}(h:iv ρ c cr)(x:Int):cr.shp x=c.shp x:=by rw[h.eq];rfl
theorem sY{ρ:Int→Int}{c:bs}{v:Int}(h:jq c.up ρ)(aG:v∈ct c.up):∃cr,rt c v=some (ρ v,cr)∧iv ρ c cr:=by
 have bt:yw v c.up=c.up:=by simp[yw,GI.2 aG]
 obtain⟨hn,J,U,ao⟩:=Vz (v.toNat+1) c.up v h aG (by omega);exact⟨{c with up:=hn},by simp[rt,bt,J],⟨U,ao,rfl⟩⟩
theorem ajK{ρ:Int→Int}{c:bs}{v:Int}(h:jq c.up ρ)(bA:0≤v)(aG:v∉ct c.up):rt c v=some (v,{c with up:=eJ v v c.up})∧jq (eJ v v c.up) ρ∧ct (eJ v v c.up)=ct c.up++[v]:=by
 have aA:=akG.2 aG;have ab:=SL (v:=v) aG;refine⟨?_,⟨fun w u hw=>?_,fun w hw=>h.no w fun hm=>hw (by rw[ab];simp[hm])⟩,ab⟩
 ·simp[rt,yw,aA,we,iM,ng]
 ·rw[ng]at hw;rw[ab];by_cases e:w=v
  ·subst e;rw[if_pos rfl]at hw;cases hw;exact⟨⟨bA,by omega,by simp⟩,rfl,⟨fun _=>rfl,fun _=>h.no _ aG⟩⟩
  ·rw[if_neg e]at hw;obtain⟨⟨bC,a2,a3⟩,a4⟩:=h.up w u hw;exact⟨⟨bC,a2,by simp[a3]⟩,a4⟩
def bs.ph(c:bs)(x:Int):aY T:=if c.shd x then some (c.shp x)else none
theorem iv.ph{ρ:Int→Int}{c cr:bs}(h:iv ρ c cr):cr.ph=c.ph:=by funext x;simp only[bs.ph,h.shd,h.shp]
def jV(ph:Int→aY T)(ρ:Int→Int)(aN:Int→T):Prop:=(∀v,aN v=aN (ρ v))∧∀x t,ρ x=x→ph x=some t→aN x=t.ap aN
def iQ(ph:Int→aY T)(ρ:Int→Int)(z u:Int):Prop:=ρ z=z∧∃t w,ph z=some t∧t.occ w=true∧ρ w=u
inductive mD (E:Int→Int→Prop):Int→Int→Prop
 |refl (a:Int):mD E a a
 |step {a b c:Int}:E a b→mD E b c→mD E a c
def nV(V:List Int)(ph:Int→aY T):Prop:= ∀x t,ph x=some t→t.kind≠1∧(∀w,t.occ w=true→w∈V)∧x∈V
def GM(V:List Int)(ph:Int→aY T)(seen:List (Int×Bool)):Nat:=(V.filter fun v=>(ph v).isSome&& !((c3 v seen).getD false)).length
def mi(seen:List (Int×Bool))(z:Int):Prop:=(c3 z seen).getD false=true
structure Xf (V:List Int) (ph:Int→aY T) (ρ:Int→Int) (x:Int) (occ:Int→Prop) (a bn:tp):Prop where
 sm:iv ρ a.c bn.c
 sub:∀z,mi a.seen z→mi bn.seen z
 yes:bn.found=true→a.found=true∨ ∃w,occ w∧mD (iQ ph ρ) (ρ w) x
 kept:a.found=true→bn.found=true
 no:bn.found=false→(∀w,occ w→ρ w≠x∧((ph (ρ w)).isSome=true→mi bn.seen (ρ w)))∧∀r,mi bn.seen r→¬mi a.seen r→∀u,iQ ph ρ r u→u≠x∧((ph u).isSome=true→mi bn.seen u)
theorem Em{α:Type}{p q:α→Bool}:∀{V:List α},(∀x∈V,q x=true→p x=true)→(V.filter q).length≤(V.filter p).length
 |[],_=>by simp
 |y::V,h=>by have:=Em (p:=p) (q:=q) (V:=V) fun x ae=>h x (by simp[ae]);have aL:=h y (by simp);simp only[List.filter_cons];cases e:q y<;>cases aC:p y<;>simp_all<;>omega
theorem En{α:Type}{p q:α→Bool}{v:α}:∀{V:List α},(∀x∈V,q x=true→p x=true)→v∈V→p v=true→q v=false→(V.filter q).length<(V.filter p).length
 |[],_,h,_,_=>by simp at h
 |x::V,h,aG,bI,br=>by
  have hle:=Em (p:=p) (q:=q) (V:=V) fun x ae=>h x (pg _ ae);simp only[List.filter_cons];rcases fY.1 aG with rfl|aG
  ·simp[bI,br];omega
  ·have:=En (fun x ae=>h x (pg _ ae)) aG bI br;have ae:=h x (by simp);cases e:q x<;>cases aC:p x<;>simp_all<;>omega
theorem akN{V:List Int}{ph:Int→aY T}{s ai:List (Int×Bool)}(h:∀z,mi s z→mi ai z):GM V ph ai≤GM V ph s:=
 Em fun x _ ae=>by
  simp only[cC,Bool.not_eq_true']at ae⊢;refine⟨ae.1,?_⟩;cases e:(c3 x s).getD false with
  |false=>rfl
  |true=>have:=h x e;unfold mi at this;rw[ae.2]at this;cases this
theorem JK{s:List (Int×Bool)}{r z:Int}:mi (eJ r true s) z↔z=r∨mi s z:=by unfold mi;rw[ng];by_cases h:z=r<;>simp[h]
theorem ajD{V:List Int}{ph:Int→aY T}{ρ:Int→Int}{x:Int}(gA:nV V ph)(k:Nat):∀(t:T) (a:tp),jq a.c.up ρ→ct a.c.up=V→a.c.ph=ph→(∀w,t.occ w=true→w∈V)→GM V ph a.seen≤k→
  ∃N bn,(∀n,N≤n→t.foldO (wc (pa n x) x) a=some bn)∧Xf V ph ρ x (fun w=>t.occ w=true) a bn:=by
 induction k using Nat.strongRecOn with
 |ind k JJ=>
 intro t;induction t with
 |var v=>
  intro a lR ab ji aO B0;obtain⟨bH,J,U⟩:=sY lR (by rw[ab];exact aO v (by simp[T.occ]));have jK:bH.shd (ρ v)=(ph (ρ v)).isSome:=by rw[U.shd,←ji];simp only[bs.ph];split<;>simp_all
  by_cases aJ:a.found=true∨ρ v=x
  ·refine⟨0,⟨bH,a.seen,true⟩,fun n _=>by simp[T.foldO,wc,J,aJ],U,fun z bp=>bp,fun _=>?_,fun _=>rfl,fun h=>by cases h⟩;rcases aJ with aJ|aJ
   ·exact .inl aJ
   ·exact .inr ⟨v,by simp[T.occ],by rw[aJ];exact .refl _⟩
  ·by_cases ag:(c3 (ρ v) a.seen).getD false=false∧bH.shd (ρ v)=true
   ·have EU:ph (ρ v)=some (bH.shp (ρ v)):=by rw[←ji];simp only[bs.ph,U.shp];rw[if_pos (by rw[←U.shd];exact ag.2)]
    obtain⟨g1,g2,g3⟩:=gA _ _ EU;have bD:GM V ph (eJ (ρ v) true a.seen)<k:=by
     refine Nat.lt_of_lt_of_le (En (v:=ρ v) (fun z _ bp=>?_) g3 ?_ ?_) B0
     ·simp only[cC,Bool.not_eq_true']at bp⊢;refine⟨bp.1,?_⟩;rw[ng]at bp;by_cases e:z=ρ v
      ·subst e;exact ag.1
      ·rw[if_neg e]at bp;exact bp.2
     ·simp[EU,ag.1]
     ·simp[ng]
    obtain⟨N,bn,ak,cO⟩:=JJ _ bD (bH.shp (ρ v)) ⟨bH,eJ (ρ v) true a.seen,false⟩ U.ru (by rw[U.keys];exact ab) (by rw[U.ph];exact ji) g2 (eR _);refine⟨N+1,bn,fun n aA=>?_,U.trans cO.sm,fun z bp=>cO.sub z (JK.2 (.inr bp)),fun aL=>?_,fun h=>absurd (.inl h) aJ,fun cB=>?_⟩
    ·obtain⟨n',rfl⟩:∃n',n=n'+1:=⟨n-1,by omega⟩;simp only[T.foldO,wc,J,kO,if_neg aJ,if_pos ag,pa];exact ak n' (by omega)
    ·rcases cO.yes aL with h|⟨w,a6,bE⟩
     ·cases h
     ·exact .inr ⟨v,by simp[T.occ],.step ⟨by rw[jq.idem lR],_,w,EU,a6,rfl⟩ bE⟩
    ·obtain⟨a6,bE⟩:=cO.no cB;have jg:mi bn.seen (ρ v):=cO.sub _ (JK.2 (.inl rfl));refine⟨fun w hw=>?_,fun r aK dD u hu=>?_⟩
     ·simp[T.occ]at hw;subst hw;exact⟨fun e=>aJ (.inr e),fun _=>jg⟩
     ·by_cases ql:r=ρ v
      ·subst ql;obtain⟨_,dJ,w,kL,z2,rfl⟩:=hu;rw[EU]at kL;cases kL;exact a6 w z2
      ·exact bE r aK (fun h=>(JK.1 h).elim ql dD) u hu
   ·have Bz:a.found=false:=by cases e:a.found with
     |false=>rfl
     |true=>exact absurd (.inl e) aJ
    refine⟨0,⟨bH,a.seen,a.found⟩,fun n _=>by simp only[T.foldO,wc,J,kO,if_neg aJ,if_neg ag],U,fun z bp=>bp,fun h=>.inl h,fun h=>h,fun _=>⟨fun w hw=>?_,fun r J U=>absurd J U⟩⟩;simp[T.occ]at hw;subst hw;refine⟨fun e=>aJ (.inr e),fun bI=>?_⟩;unfold mi;cases e:(c3 (ρ v) a.seen).getD false with
    |true=>rfl
    |false=>exact absurd ⟨e,by rw[jK];exact bI⟩ ag
 |pair p q aeH aeI=>
  intro a lR ab ji aO B0;obtain⟨hC,bC,ak,cO⟩:=aeH a lR ab ji (fun w hw=>aO w (by simp[T.occ,hw])) B0;obtain⟨iS,a2,aC,dp⟩:=aeI bC cO.sm.ru (by rw[cO.sm.keys];exact ab) (by rw[cO.sm.ph];exact ji) (fun w hw=>aO w (by simp[T.occ,hw])) (j8 (akN cO.sub) B0);refine⟨max hC iS,a2,fun n aA=>by simp only[T.foldO];rw[ak n (by omega)];exact aC n (by omega),cO.sm.trans dp.sm,fun z bp=>dp.sub z (cO.sub z bp),fun aL=>?_,fun h=>dp.kept (cO.kept h),fun cB=>?_⟩
  ·rcases dp.yes aL with h|⟨w,a6,bE⟩
   ·rcases cO.yes h with h|⟨w,a6,bE⟩
    ·exact .inl h
    ·exact .inr ⟨w,by simp[T.occ,a6],bE⟩
   ·exact .inr ⟨w,by simp[T.occ,a6],bE⟩
  ·have acQ:bC.found=false:=by cases e:bC.found with
    |false=>rfl
    |true=>have:=dp.kept e;rw[cB]at this;cases this
   obtain⟨dH,e8⟩:=cO.no acQ;obtain⟨s1,s2⟩:=dp.no cB;refine⟨fun w hw=>?_,fun r aK dD u hu=>?_⟩
   ·simp only[T.occ,mA]at hw;rcases hw with hw|hw
    ·exact⟨(dH w hw).1,fun h=>dp.sub _ ((dH w hw).2 h)⟩
    ·exact s1 w hw
   ·by_cases h:mi bC.seen r
    ·exact⟨(e8 r h dD u hu).1,fun cu=>dp.sub _ ((e8 r h dD u hu).2 cu)⟩
    ·exact s2 r aK h u hu
 |_=>intro a lR ab ji aO B0;exact⟨0,a,fun n _=>rfl,iv.refl lR,fun z bp=>bp,fun h=>.inl h,fun h=>h,fun _=>⟨fun w hw=>by simp[T.occ]at hw,fun r J U=>absurd J U⟩⟩
theorem Ge{ρ:Int→Int}{x:Int}{c:bs}{t:T}(lR:jq c.up ρ)(gA:nV (ct c.up) c.ph)(aO:∀w,t.occ w=true→w∈ct c.up):
  ∃N a,(∀n,N≤n→pa n x t c []=some a)∧iv ρ c a.c∧(a.found=true↔∃w,t.occ w=true∧mD (iQ c.ph ρ) (ρ w) x):=by
 obtain⟨N,a,J,U⟩:=ajD (x:=x) gA _ t ⟨c,[],false⟩ lR rfl rfl aO (eR _);refine⟨N+1,a,fun n aA=>?_,U.sm,fun h=>?_,fun⟨w,hw,aK⟩=>?_⟩
 ·obtain⟨n',rfl⟩:∃n',n=n'+1:=⟨n-1,by omega⟩;exact J n' (by omega)
 ·rcases U.yes h with h|h
  ·cases h
  ·exact h
 ·cases e:a.found with
  |true=>rfl
  |false=>
   obtain⟨a6,bE⟩:=U.no e;have key:∀z,mD (iQ c.ph ρ) z x→z≠x→((c.ph z).isSome=true→mi a.seen z)→eK:=by
    have:∀z y,mD (iQ c.ph ρ) z y→y=x→z≠x→((c.ph z).isSome=true→mi a.seen z)→eK:=by
     intro z y aL;induction aL with
     |refl z=>intro h ca;exact absurd h ca
     | @step z b cr he _ bU=>intro ae cF jg;obtain⟨_,dJ,w',kL,_,_⟩:=id he;have ag:=jg (by simp[kL]);obtain⟨g1,g2⟩:=bE z ag (by simp[mi,c3]) b he;exact bU ae g1 g2
    exact fun z bp=>this z x bp rfl
   exact(key _ aK (a6 w hw).1 (a6 w hw).2).elim
end Go.Pv
namespace Go.Pv
open Go
theorem Xq{E:Int→Int→Prop}{x:Int}{r:Int→Nat}{M:Nat}(h:∀z u,z≠x→E z u→r u<r z)(gm:∀u,E x u→r u<M)(aA:∀u,E x u→¬mD E u x):∃eC:Int→Nat,∀z u,E z u→eC u<eC z:=by
 classical
 refine⟨fun z=>if mD E z x then r z+M else r z,fun z u he=>?_⟩;show(if mD E u x then r u+M else r u)<(if mD E z x then r z+M else r z);by_cases bp:z=x
 ·subst bp;have J:=aA u he;have U:=gm u he;rw[if_neg J,if_pos (mD.refl z)];omega
 ·have J:=h z u bp he;by_cases hu:mD E u x
  ·rw[if_pos hu,if_pos (mD.step he hu)];omega
  ·rw[if_neg hu];split<;>omega
def mI(ph:Int→aY T)(ρ:Int→Int):Nat→Int→T
 |0,v=>.var (ρ v)
 |n+1,v=>match ph (ρ v)with
  |none=>.var (ρ v)
  |some t=>t.ap (mI ph ρ n)
section
variable {ph:Int→aY T} {ρ:Int→Int} {r:Int→Nat}
theorem ZN(eO:∀v,ρ (ρ v)=ρ v):∀(n:Nat) (v:Int),mI ph ρ n v=mI ph ρ n (ρ v)
 |0,v=>by simp[mI,eO]
 |n+1,v=>by simp[mI,eO]
theorem Qb(eO:∀v,ρ (ρ v)=ρ v)(aK:∀z u,iQ ph ρ z u→r u<r z):∀(n:Nat) (v:Int),r (ρ v)<n→mI ph ρ n v=mI ph ρ (n+1) v
 |0,_,h=>by omega
 |n+1,v,h=>by
  show(match ph (ρ v)with|none=>T.var (ρ v)|some t=>t.ap (mI ph ρ n))=(match ph (ρ v)with|none=>T.var (ρ v)|some t=>t.ap (mI ph ρ (n+1)));cases e:ph (ρ v)with
  |none=>rfl
  |some t=>refine tx fun w hw=>Qb eO aK n w ?_;have:=aK (ρ v) (ρ w) ⟨eO v,t,w,e,hw,rfl⟩;omega
theorem Qa(eO:∀v,ρ (ρ v)=ρ v)(aK:∀z u,iQ ph ρ z u→r u<r z){n:Nat}{v:Int}(h:r (ρ v)<n):∀k,mI ph ρ (n+k) v=mI ph ρ n v
 |0=>rfl
 |k+1=>by rw[←Qa eO aK h k];exact(Qb eO aK (n+k) v (by omega)).symm
def gM(ph:Int→aY T)(ρ:Int→Int)(r:Int→Nat)(v:Int):T:=mI ph ρ (r (ρ v)+1) v
theorem yV(eO:∀v,ρ (ρ v)=ρ v)(v:Int):gM ph ρ r v=gM ph ρ r (ρ v):=by unfold gM;rw[ZN eO,eO]
theorem Bl{v:Int}(h:ph (ρ v)=none):gM ph ρ r v= .var (ρ v):=by simp[gM,mI,h]
theorem yW(eO:∀v,ρ (ρ v)=ρ v)(aK:∀z u,iQ ph ρ z u→r u<r z){v:Int}{t:T}(h:ph (ρ v)=some t):gM ph ρ r v=t.ap (gM ph ρ r):=by show mI ph ρ (r (ρ v)+1) v=_;simp only[mI,h];refine tx fun w hw=>?_;have J:=aK (ρ v) (ρ w) ⟨eO v,t,w,h,hw,rfl⟩;have:=Qa eO aK (n:=r (ρ w)+1) (v:=w) (by omega) (r (ρ v)-(r (ρ w)+1));rw[show r (ρ w)+1+(r (ρ v)-(r (ρ w)+1))=r (ρ v)from by omega]at this;exact this
theorem acO(eO:∀v,ρ (ρ v)=ρ v)(aK:∀z u,iQ ph ρ z u→r u<r z):jV ph ρ (gM ph ρ r):=⟨yV eO,fun x t ae h=>yW eO aK (by rw[ae];exact h)⟩
theorem GB{V:List Int}(gA:nV V ph){aN:Int→T}(h:jV ph ρ aN){z u:Int}(he:iQ ph ρ z u):(aN u).size<(aN z).size:=by obtain⟨J,t,w,U,ao,rfl⟩:=he;rw[h.2 z t J U,←h.1 w];exact(zP aN ao).2 (gA z t U).1
theorem GC{V:List Int}(gA:nV V ph){aN:Int→T}(h:jV ph ρ aN){z u:Int}(he:mD (iQ ph ρ) z u):(aN u).size≤(aN z).size:=by
 induction he with
 |refl=>exact eR _
 |step J _ bU=>have:=GB gA h J;omega
end
theorem XS(r:Int→Nat)(t:T):∃M,∀w,t.occ w=true→r w<M:=by
 induction t with
 |var n=>exact⟨r n+1,fun w hw=>by simp[T.occ]at hw;subst hw;omega⟩
 |pair a b dS dT=>
  obtain⟨Xb,J⟩:=dS;obtain⟨Xc,U⟩:=dT;refine⟨Xb+Xc,fun w hw=>?_⟩;simp only[T.occ,mA]at hw;rcases hw with hw|hw
  ·have:=J w hw;omega
  ·have:=U w hw;omega
 |_=>exact⟨0,fun w hw=>by simp[T.occ]at hw⟩
theorem C4{ph:Int→aY T}{ρ:Int→Int}(eO:∀v,ρ (ρ v)=ρ v){x:Int}{r:Int→Nat}(h:∀z u,z≠x→iQ ph ρ z u→r u<r z)(aA:∀u,iQ ph ρ x u→¬mD (iQ ph ρ) u x):∃aN,jV ph ρ aN:=by
 have gm:∃M,∀u,iQ ph ρ x u→r u<M:=by
  cases e:ph x with
  |none=>exact⟨0,fun u ⟨_,t,w,J,_⟩=>by rw[e]at J;cases J⟩
  |some t=>obtain⟨M,gm⟩:=XS (fun w=>r (ρ w)) t;refine⟨M,fun u ⟨_,dJ,w,J,U,ao⟩=>?_⟩;rw[e]at J;cases J;subst ao;exact gm w U
 obtain⟨M,gm⟩:=gm;obtain⟨eC,dD⟩:=Xq h gm aA;exact⟨_,acO eO dD⟩
structure lH (c:bs) (ρ:Int→Int):Prop where
 ru:jq c.up ρ
 sh:nV (ct c.up) c.ph
 sat:∃aN,jV c.ph ρ aN
theorem lH.sm{c cr:bs}{ρ:Int→Int}(h:lH c ρ)(k:iv ρ c cr):lH cr ρ:=⟨k.ru,by rw[k.keys,k.ph];exact h.sh,by rw[k.ph];exact h.sat⟩
def ib(c:bs)(ρ:Int→Int):Nat:=((ct c.up).filter fun v=>decide (ρ v=v)).length+((ct c.up).filter fun v=>decide (ρ v=v)&& !(c.ph v).isSome).length
theorem wC{c cr:bs}{ρ:Int→Int}(k:iv ρ c cr):ib cr ρ=ib c ρ:=by unfold ib;rw[k.keys,k.ph]
structure iR (c:bs) (ρ:Int→Int) (p:(Int→T)→Prop) (o:Bool×bs):Prop where
 keys:ct o.2.up=ct c.up
 rest:o.2.color=c.color∧o.2.size=c.size∧o.2.full=c.full
 yes:o.1=true→∃ρ',lH o.2 ρ'∧(∀aN,jV o.2.ph ρ' aN↔jV c.ph ρ aN∧p aN)∧((ρ'=ρ∧o.2.ph=c.ph)∨ib o.2 ρ'<ib c ρ)
 no:o.1=false→∀aN,jV c.ph ρ aN→¬p aN
theorem iv.rest{ρ:Int→Int}{c cr:bs}(h:iv ρ c cr):cr.color=c.color∧cr.size=c.size∧cr.full=c.full:=by rw[h.eq];exact⟨rfl,rfl,rfl⟩
theorem iR.sm{c cr:bs}{ρ:Int→Int}{p:(Int→T)→Prop}{o:Bool×bs}(k:iv ρ c cr)(h:iR cr ρ p o):iR c ρ p o:=⟨h.keys.trans k.keys,by rw[h.rest.1,h.rest.2.1,h.rest.2.2];exact k.rest,fun e=>by rw[←wC k,←k.ph];exact h.yes e,by rw[←k.ph];exact h.no⟩
theorem iR.congr{c:bs}{ρ:Int→Int}{p q:(Int→T)→Prop}{o:Bool×bs}(kl:∀aN,jV c.ph ρ aN→(p aN↔q aN))(h:iR c ρ p o):iR c ρ q o:=⟨h.keys,h.rest,fun e=>by obtain⟨ρ',J,U,ao⟩:=h.yes e;exact⟨ρ',J,fun aN=>(U aN).trans (and_congr_right fun ag=>kl aN ag),ao⟩,fun e aN ag br=>h.no e aN ag ((kl aN ag).2 br)⟩
theorem vX(c:bs)(x:Int)(t:T)(z:Int):(c.know x t).ph z=if z=x then some t else c.ph z:=by
 simp only[bs.ph,bs.know,bs.shd,bs.shp,ng];by_cases h:z=x
 ·simp[h]
 ·simp only[if_neg h];exact ite_congr rfl (fun _=>rfl) fun _=>rfl
theorem S6{c:bs}{ρ:Int→Int}(hi:lH c ρ){x:Int}(ae:ρ x=x)(ab:x∈ct c.up)(ji:c.ph x=none){t:T}(aO:t.kind≠1)(aG:∀w,t.occ w=true→w∈ct c.up):
  ∃N o,(∀n,N≤n→uj n x t c=some o)∧iR c ρ (fun aN=>aN x=t.ap aN) o:=by
 have gA:nV (ct (c.know x t).up) (c.know x t).ph:=by
  intro z u bp;rw[vX]at bp;split at bp
  ·rename_i e;cases bp;subst e;exact⟨aO,aG,ab⟩
  ·exact hi.sh z u bp
 have kX:∀aN,jV (c.know x t).ph ρ aN↔jV c.ph ρ aN∧aN x=t.ap aN:=by
  intro aN;constructor
  ·rintro⟨J,U⟩;refine⟨⟨J,fun z u bp hu=>U z u bp ?_⟩,U x t ae (by rw[vX];simp)⟩;rw[vX];split
   ·rename_i e;subst e;rw[ji]at hu;cases hu
   ·exact hu
  ·rintro⟨⟨J,U⟩,ao⟩;refine⟨J,fun z u bp hu=>?_⟩;rw[vX]at hu;split at hu
   ·rename_i e;subst e;cases hu;exact ao
   ·exact U z u bp hu
 obtain⟨N,a,J,U,ao⟩:=Ge (x:=x) (c:=c.know x t) (t:=t) hi.ru gA aG;refine⟨N,(!a.found,a.c),fun n aA=>by simp[uj,J n aA],U.keys,U.rest,fun aJ=>?_,fun aJ aN ag he=>?_⟩
 ·simp only[Bool.not_eq_true']at aJ;have ad3:∀u,iQ (c.know x t).ph ρ x u→¬mD (iQ (c.know x t).ph ρ) u x:=by rintro u ⟨_,dJ,w,a6,bE,rfl⟩ aK;rw[vX,if_pos rfl]at a6;cases a6;have:=ao.2 ⟨w,bE,aK⟩;rw[aJ]at this;cases this
  obtain⟨kM,uc⟩:=hi.sat
  have aej:=C4 (ph:=(c.know x t).ph) (ρ:=ρ) hi.ru.idem (x:=x) (r:=fun z=>(kM z).size) (fun z u bp he=>by refine GB hi.sh uc ?_;obtain⟨ak,dJ,w,aC,bk⟩:=he;rw[vX,if_neg bp]at aC;exact⟨ak,dJ,w,aC,bk⟩) ad3
  refine⟨ρ,⟨U.ru,?_,?_⟩,fun aN=>?_,.inr ?_⟩
  ·simp only[U.keys,U.ph];exact gA
  ·simp only[U.ph];exact aej
  ·simp only[U.ph];exact kX aN
  ·simp only[wC U];unfold ib;have ak:ct (c.know x t).up=ct c.up:=rfl;rw[ak];have:=En (V:=ct c.up) (v:=x) (p:=fun v=>decide (ρ v=v)&& !(c.ph v).isSome) (q:=fun v=>decide (ρ v=v)&& !((c.know x t).ph v).isSome) (fun z _ bp=>by
    rw[vX]at bp;split at bp
    ·simp at bp
    ·exact bp) ab (by simp[ae,ji]) (by simp[vX])
   omega
 ·simp only[Bool.not_eq_false']at aJ;obtain⟨w,a6,bE⟩:=ao.1 aJ;have gb:=(kX aN).2 ⟨ag,he⟩;have:=GC gA gb bE;have ba:=(zP aN a6).2 aO;rw[←he]at ba;rw[←ag.1 w]at this;omega
def iV(ρ:Int→Int)(x y:Int)(v:Int):Int:=if ρ v=y then x else ρ v
section
variable {c:bs} {ρ:Int→Int} {x y:Int}
theorem pN(ae:ρ x=x)(aL:ρ y=y)(hL:x≠y){z:Int}:iV ρ x y z=z↔ρ z=z∧z≠y:=by
 unfold iV;split
 ·rename_i e;constructor
  ·intro h;subst h;rw[ae]at e;exact absurd e hL
  ·rintro⟨J,U⟩;rw[J]at e;exact absurd e U
 ·rename_i e;constructor
  ·intro h;exact⟨h,fun aC=>e (by rw[aC,aL])⟩
  ·exact fun h=>h.1
theorem jq.join(h:jq c.up ρ)(ae:ρ x=x)(aL:ρ y=y)(hL:x<y)(Ch:x∈ct c.up)(uk:y∈ct c.up):jq (c.join x y).up (iV ρ x y):=by
 have ab:ct (c.join x y).up=ct c.up:=Cf uk;refine⟨fun v u aG=>?_,fun v aG=>?_⟩
 ·rw[ab];have lS:c3 v (eJ y x c.up)=some u:=aG;rw[ng]at lS;by_cases e:v=y
  ·subst e;rw[if_pos rfl]at lS;cases lS;have bA:=(h.mem Ch).2;rw[ae]at bA;refine⟨⟨bA,by omega,Ch⟩,?_,⟨fun e=>?_,fun e=>by omega⟩⟩
   ·unfold iV;rw[ae,aL,if_pos rfl,if_neg (by omega)]
   ·have:=((pN ae aL (by omega)).1 e).2;exact absurd rfl this
  ·rw[if_neg e]at lS;obtain⟨bC,a2,a3⟩:=h.up v u lS;refine⟨bC,by unfold iV;rw[a2],?_⟩;rw[pN ae aL (by omega),a3];exact⟨fun h=>h.1,fun h=>⟨h,e⟩⟩
 ·rw[ab]at aG;have:=h.no v aG;unfold iV;rw[this,if_neg fun e=>aG (by rw[e];exact uk)]
theorem ake{ph:Int→aY T}(ae:ρ x=x)(aL:ρ y=y)(hL:x≠y)(aN:Int→T):(jV ph (iV ρ x y) aN∧∀t,ph y=some t→aN x=t.ap aN)↔(jV ph ρ aN∧aN x=aN y):=by
 constructor
 ·rintro⟨⟨J,U⟩,ao⟩;have JH:aN y=aN x:=by have:=J y;simpa[iV,aL]using this
  refine⟨⟨fun v=>?_,fun z t bp aO=>?_⟩,JH.symm⟩
  ·have:=J v;unfold iV at this;split at this
   ·rename_i e;rw[e,this,JH]
   ·exact this
  ·by_cases e:z=y
   ·subst e;rw[JH];exact ao t aO
   ·exact U z t ((pN ae aL hL).2 ⟨bp,e⟩) aO
 ·rintro⟨⟨J,U⟩,ao⟩;refine⟨⟨fun v=>?_,fun z t bp aO=>U z t ((pN ae aL hL).1 bp).1 aO⟩,fun t aO=>by rw[ao];exact U y t aL aO⟩;unfold iV;split
  ·rename_i e;rw[J v,e,ao]
  ·exact J v
theorem ajC{V:List Int}{ph:Int→aY T}(gA:nV V ph)(ae:ρ x=x)(aL:ρ y=y)(hL:x≠y){aN:Int→T}(h:jV ph ρ aN){z u:Int}(bp:z≠x)(he:iQ ph (iV ρ x y) z u):(if u=x then 0 else(aN u).size)<(if z=x then 0 else(aN z).size):=by
 obtain⟨J,t,w,U,ao,rfl⟩:=he;have aK:=(pN ae aL hL).1 J;rw[if_neg bp];split
 ·exact T.size_pos _
 ·rename_i cF;have:iV ρ x y w=ρ w:=by
   unfold iV at cF⊢;split
   ·rename_i e;rw[if_pos e]at cF;exact absurd rfl cF
   ·rfl
  rw[this];exact GB gA h ⟨aK.1,t,w,U,ao,rfl⟩
theorem W8(ae:ρ x=x)(aL:ρ y=y)(hL:x≠y)(uk:y∈ct c.up):ib (c.join x y) (iV ρ x y)<ib c ρ:=by have ab:ct (c.join x y).up=ct c.up:=Cf uk;have bI:(c.join x y).ph=c.ph:=rfl;unfold ib;rw[ab,bI];have J:=En (V:=ct c.up) (v:=y) (p:=fun v=>decide (ρ v=v)) (q:=fun v=>decide (iV ρ x y v=v)) (fun z _ bp=>by simp only[fk]at bp⊢;exact((pN ae aL hL).1 bp).1) uk (by simp[aL]) (by simp only[gz];exact fun h=>((pN ae aL hL).1 h).2 rfl);have U:=Em (V:=ct c.up) (p:=fun v=>decide (ρ v=v)&& !(c.ph v).isSome) (q:=fun v=>decide (iV ρ x y v=v)&& !(c.ph v).isSome) (fun z _ bp=>by simp only[cC,fk]at bp⊢;exact⟨((pN ae aL hL).1 bp.1).1,bp.2⟩);omega
end
theorem zY{c:bs}{x:Int}(h:c.shd x=false):c.ph x=none:=by simp[bs.ph,h]
theorem zZ{c:bs}{x:Int}(h:¬c.shd x=false):c.ph x=some (c.shp x):=by simp[bs.ph];simpa using h
theorem P3{c:bs}{ρ:Int→Int}(hi:lH c ρ){x y:Int}(ae:ρ x=x)(aL:ρ y=y)(hL:x<y)(Ch:x∈ct c.up)(uk:y∈ct c.up)
  (rec:∀(bH:bs) (k5:Int→Int),lH bH k5→ct bH.up=ct c.up→ib bH k5<ib c ρ→∀a b:T,(∀w,a.occ w=true→w∈ct c.up)→(∀w,b.occ w=true→w∈ct c.up)→∃N o,(∀n,N≤n→gv n a b bH=some o)∧iR bH k5 (fun aN=>a.ap aN=b.ap aN) o):
  ∃N o,(∀n,N≤n→qY (gv n) n x y (c.join x y)=some o)∧iR c ρ (fun aN=>aN x=aN y) o:=by
 have cF:x≠y:=by omega
 have ab:ct (c.join x y).up=ct c.up:=Cf uk;have bI:(c.join x y).ph=c.ph:=rfl;have lR:=hi.ru.join ae aL hL Ch uk;have c1:=W8 (c:=c) ae aL cF uk;have gA:nV (ct (c.join x y).up) (c.join x y).ph:=by rw[ab,bI];exact hi.sh
 obtain⟨kM,uc⟩:=hi.sat
 have EX:∀z u,z≠x→iQ c.ph (iV ρ x y) z u→(fun z=>if z=x then 0 else(kM z).size) u<(fun z=>if z=x then 0 else(kM z).size) z:=fun z u bp he=>ajC hi.sh ae aL cF uc bp he;have kX:=fun aN=>ake (ph:=c.ph) ae aL cF aN;have R0:∀{cr:bs},iv (iV ρ x y) (c.join x y) cr→(∃aN,jV c.ph (iV ρ x y) aN)→c.ph y=none→iR c ρ (fun aN=>aN x=aN y) (true,cr):=by intro cr k ag aA;refine⟨k.keys.trans ab,k.rest,fun _=>⟨iV ρ x y,⟨k.ru,by simp only[k.keys,k.ph];exact gA,by simp only[k.ph];exact ag⟩,fun aN=>?_,.inr (by simp only[wC k];exact c1)⟩,fun e=>by cases e⟩;simp only[k.ph,bI];rw[←kX aN];exact⟨fun h=>⟨h,fun t aO=>by rw[aA]at aO;cases aO⟩,fun h=>h.1⟩
 by_cases J:(c.join x y).shd y=false
 ·have RP:c.ph y=none:=zY J;by_cases U:(c.join x y).shd x=false
  ·have zh:c.ph x=none:=zY U;refine⟨0,(true,c.join x y),fun n _=>by simp only[qY,if_pos J,if_pos U],R0 (iv.refl lR) ?_ RP⟩;exact C4 lR.idem (x:=x) EX fun u ⟨_,t,w,q,_⟩=>by rw[zh]at q;cases q
  ·have nB:c.ph x=some ((c.join x y).shp x):=zZ U;obtain⟨N,a,ak,aC,bk⟩:=Ge (x:=x) (c:=c.join x y) (t:=(c.join x y).shp x) lR gA (by rw[ab];exact(hi.sh _ _ nB).2.1);refine⟨N,(!a.found,a.c),fun n aA=>by simp only[qY,if_pos J,if_neg U,ak n aA,nQ],?_⟩;cases aJ:a.found with
   |false=>refine R0 aC (C4 lR.idem (x:=x) EX fun u ⟨_,t,w,a6,bE,bX⟩ aK=>?_) RP;rw[nB]at a6;cases a6;subst bX;have:=bk.2 ⟨w,bE,aK⟩;rw[aJ]at this;cases this
   |true=>refine⟨aC.keys.trans ab,aC.rest,(fun e=>by cases e),fun _ aN ag he=>?_⟩;obtain⟨w,a6,bE⟩:=bk.1 aJ;have gb:=((kX aN).2 ⟨ag,he⟩).1;have ao:=GC hi.sh gb bE;have ba:=(zP aN a6).2 (hi.sh _ _ nB).1;rw[←gb.2 x _ ((pN ae aL cF).2 ⟨ae,cF⟩) nB]at ba;rw[←gb.1 w]at ao;omega
 ·have qu:c.ph y=some ((c.join x y).shp y):=zZ J;by_cases U:(c.join x y).shd x=false
  ·have zh:c.ph x=none:=zY U;have lO:lH (c.join x y) (iV ρ x y):=⟨lR,gA,C4 lR.idem (x:=x) EX fun u ⟨_,t,w,q,_⟩=>by rw[bI,zh]at q;cases q⟩;obtain⟨N,o,ak,aC⟩:=S6 lO (x:=x) ((pN ae aL cF).2 ⟨ae,cF⟩) (by rw[ab];exact Ch) zh (t:=(c.join x y).shp y) (hi.sh _ _ qu).1 (by rw[ab];exact(hi.sh _ _ qu).2.1);refine⟨N,o,fun n aA=>by simp only[qY,if_neg J,if_pos U,ak n aA],aC.keys.trans ab,aC.rest,fun aJ=>?_,fun aJ aN ag he=>?_⟩
   ·obtain⟨ρ',g1,g2,g3⟩:=aC.yes aJ;refine⟨ρ',g1,fun aN=>?_,.inr ?_⟩
    ·rw[g2 aN,←kX aN];refine and_congr_right fun _=>⟨fun h t aO=>by rw[qu]at aO;cases aO;exact h,fun h=>h _ qu⟩
    ·rcases g3 with⟨rfl,g3⟩|g3
     ·have:ib o.2 (iV ρ x y)=ib (c.join x y) (iV ρ x y):=by unfold ib;rw[aC.keys,g3]
      omega
     ·omega
   ·obtain⟨s1,s2⟩:=(kX aN).2 ⟨ag,he⟩;exact aC.no aJ aN s1 (s2 _ qu)
  ·have nB:c.ph x=some ((c.join x y).shp x):=zZ U;obtain⟨hC,a,ak,aC,bk⟩:=Ge (x:=x) (c:=c.join x y) (t:=(c.join x y).shp y) lR gA (by rw[ab];exact(hi.sh _ _ qu).2.1);cases aJ:a.found with
   |true=>refine⟨hC,(false,a.c),fun n aA=>by simp only[qY,if_neg J,if_neg U,ak n aA,kO,aJ,if_true],aC.keys.trans ab,aC.rest,(fun e=>by cases e),fun _ aN ag he=>?_⟩;obtain⟨w,a6,bE⟩:=bk.1 aJ;obtain⟨gb,o2⟩:=(kX aN).2 ⟨ag,he⟩;have ao:=GC hi.sh gb bE;have ba:=(zP aN a6).2 (hi.sh _ _ qu).1;rw[←o2 _ qu]at ba;rw[←gb.1 w]at ao;omega
   |false=>
    have R5:a.c.shp x=(c.join x y).shp x:=aC.shp x;obtain⟨iS,b,f1,f2,f3⟩:=Ge (x:=x) (c:=a.c) (t:=(c.join x y).shp x) aC.ru (by rw[aC.keys,aC.ph];exact gA) (by rw[aC.keys,ab];exact(hi.sh _ _ nB).2.1);have eZ:=aC.trans f2;cases a1:b.found with
    |true=>refine⟨max hC iS,(false,b.c),fun n aA=>by simp only[qY,if_neg J,if_neg U,ak n (by omega),kO,aJ,R5,f1 n (by omega),a1,if_true,gS,if_false],eZ.keys.trans ab,eZ.rest,(fun e=>by cases e),fun _ aN ag he=>?_⟩;obtain⟨w,a6,bE⟩:=f3.1 a1;obtain⟨gb,_⟩:=(kX aN).2 ⟨ag,he⟩;rw[aC.ph]at bE;have ao:=GC hi.sh gb bE;have ba:=(zP aN a6).2 (hi.sh _ _ nB).1;rw[←gb.2 x _ ((pN ae aL cF).2 ⟨ae,cF⟩) nB]at ba;rw[←gb.1 w]at ao;omega
    |false=>
     have za:lH b.c (iV ρ x y):=by refine⟨eZ.ru,by rw[eZ.keys,eZ.ph];exact gA,?_⟩;rw[eZ.ph];refine C4 lR.idem (x:=x) EX fun u ⟨_,t,w,a6,bE,bX⟩ aK=>?_;rw[bI,nB]at a6;cases a6;subst bX;have:=f3.2 ⟨w,bE,by rw[aC.ph];exact aK⟩;rw[a1]at this;cases this
     obtain⟨yt,o,g1,g2⟩:=rec b.c (iV ρ x y) za (eZ.keys.trans ab) (by rw[wC eZ];exact c1) ((c.join x y).shp x) ((c.join x y).shp y) (hi.sh _ _ nB).2.1 (hi.sh _ _ qu).2.1;refine⟨max (max hC iS) yt,o,fun n aA=>?_,g2.keys.trans (eZ.keys.trans ab),?_,fun cu=>?_,fun cu aN ag he=>?_⟩
     ·simp only[qY,if_neg J,if_neg U,ak n (by omega),kO,aJ,R5,f1 n (by omega),a1,gS,if_false,eZ.shp];exact g1 n (by omega)
     ·rw[g2.rest.1,g2.rest.2.1,g2.rest.2.2];exact eZ.rest
     ·obtain⟨ρ',a6,bE,bX⟩:=g2.yes cu;refine⟨ρ',a6,fun aN=>?_,.inr ?_⟩
      ·rw[bE aN,eZ.ph,bI,←kX aN];refine and_congr_right fun h=>?_;have:=h.2 x _ ((pN ae aL cF).2 ⟨ae,cF⟩) nB;rw[←this];exact⟨fun h t aO=>by rw[qu]at aO;cases aO;exact h,fun h=>h _ qu⟩
      ·have:ib b.c (iV ρ x y)<ib c ρ:=by rw[wC eZ];exact c1
       rcases bX with⟨rfl,bX⟩|bX
       ·have:ib o.2 (iV ρ x y)=ib b.c (iV ρ x y):=by unfold ib;rw[g2.keys,bX]
        omega
       ·omega
     ·obtain⟨s1,s2⟩:=(kX aN).2 ⟨ag,he⟩;refine g2.no cu aN (by rw[eZ.ph];exact s1) ?_;have:=s1.2 x _ ((pN ae aL cF).2 ⟨ae,cF⟩) nB;rw[←this];exact s2 _ qu
def tE:T→T→Nat
 | .var _,_=>1
 |_,.var _=>2
 |_,_=>0
theorem YU(K:Nat):∀(m:Nat) (c:bs) (ρ:Int→Int) (a b:T) (kM:Int→T),lH c ρ→jV c.ph ρ kM→(∀w,a.occ w=true→w∈ct c.up)→(∀w,b.occ w=true→w∈ct c.up)→ib c ρ=K→((a.ap kM).size+(b.ap kM).size)*3+tE a b=m→
  ∃N o,(∀n,N≤n→gv n a b c=some o)∧iR c ρ (fun aN=>a.ap aN=b.ap aN) o:=by
 induction K using Nat.strongRecOn with
 |ind K aeG=>
 have Se:∀(bH:bs) (k5:Int→Int),lH bH k5→ib bH k5<K→∀a b:T,(∀w,a.occ w=true→w∈ct bH.up)→(∀w,b.occ w=true→w∈ct bH.up)→∃N o,(∀n,N≤n→gv n a b bH=some o)∧iR bH k5 (fun aN=>a.ap aN=b.ap aN) o:=by
  intro bH k5 J U a b bt ad;obtain⟨aN,hk⟩:=J.sat
  exact aeG _ U _ bH k5 a b aN J hk bt ad rfl rfl
 intro m;induction m using Nat.strongRecOn with
 |ind m zv=>
 intro c ρ a b kM hi uc bt ad c1 hm;have adM:∀{a b:T},(∀n,gv (n+1) a b c=some (decide (a=b),c))→(∀aN,a.ap aN=a)→(∀aN,b.ap aN=b)→∃N o,(∀n,N≤n→gv n a b c=some o)∧iR c ρ (fun aN=>a.ap aN=b.ap aN) o:=by
  intro a b J U ao;refine⟨1,(decide (a=b),c),fun n aA=>?_,rfl,⟨rfl,rfl,rfl⟩,fun h=>?_,fun h aN _ he=>?_⟩
  ·obtain⟨n',rfl⟩:∃n',n=n'+1:=⟨n-1,by omega⟩;exact J n'
  ·simp only[fk]at h;subst h;exact⟨ρ,hi,fun aN=>⟨fun h=>⟨h,rfl⟩,fun h=>h.1⟩,.inl ⟨rfl,rfl⟩⟩
  ·simp only[gz]at h;rw[U,ao]at he;exact h he
 have Rh:∀{a b:T},(∀n,gv (n+1) a b c=some (decide (a=b),c))→(∀aN,a.ap aN≠b.ap aN)→a≠b→∃N o,(∀n,N≤n→gv n a b c=some o)∧iR c ρ (fun aN=>a.ap aN=b.ap aN) o:=by intro a b J U ao;refine⟨1,(false,c),fun n aA=>?_,rfl,⟨rfl,rfl,rfl⟩,(fun h=>by cases h),fun _ aN _ he=>U aN he⟩;obtain⟨n',rfl⟩:∃n',n=n'+1:=⟨n-1,by omega⟩;rw[J n',iq ao]
 have vA:∀(i:Int) (b:T),b.kind≠1→(∀n,gv (n+1) (.var i) b c=(rt c i).bind fun p=>if p.2.shd p.1=false then uj n p.1 b p.2 else gv n (p.2.shp p.1) b p.2)→i∈ct c.up→(∀w,b.occ w=true→w∈ct c.up)→((kM i).size+(b.ap kM).size)*3<m→∃N o,(∀n,N≤n→gv n (.var i) b c=some o)∧iR c ρ (fun aN=>aN i=b.ap aN) o:=by
  intro i b n5 Rk vI ad bD;obtain⟨bH,ak,aU⟩:=sY hi.ru vI;have lO:=hi.sm aU;by_cases ag:bH.shd (ρ i)=false
  ·obtain⟨N,o,aC,dp⟩:=S6 lO (x:=ρ i) (hi.ru.idem i) (by rw[aU.keys];exact(hi.ru.mem vI).1) (zY ag) n5 (by rw[aU.keys];exact ad);refine⟨N+1,o,fun n aA=>?_,iR.sm aU (iR.congr (fun aN h=>?_) dp)⟩
   ·obtain⟨n',rfl⟩:∃n',n=n'+1:=⟨n-1,by omega⟩;rw[Rk,ak];simp only[kO,if_pos ag];exact aC n' (by omega)
   ·rw[←h.1 i]
  ·have nB:bH.ph (ρ i)=some (bH.shp (ρ i)):=zZ ag;have kX:∀aN,jV bH.ph ρ aN→aN i=(bH.shp (ρ i)).ap aN:=fun aN h=>by rw[h.1 i];exact h.2 _ _ (hi.ru.idem i) nB
   have hj:=(lO.sh _ _ nB).1;have adp:tE (bH.shp (ρ i)) b=0:=by cases e:bH.shp (ρ i)<;>cases b<;>simp_all[tE,T.kind]
   have Sc:jV bH.ph ρ kM:=by rw[aU.ph];exact uc
   obtain⟨N,o,aC,dp⟩:=zv (((bH.shp (ρ i)).ap kM).size*3+(b.ap kM).size*3) (by rw[←kX kM Sc];omega) bH ρ (bH.shp (ρ i)) b kM lO Sc (lO.sh _ _ nB).2.1 (by rw[aU.keys];exact ad) (by rw[wC aU];exact c1) (by rw[adp];omega);refine⟨N+1,o,fun n aA=>?_,iR.sm aU (iR.congr (fun aN h=>?_) dp)⟩
   ·obtain⟨n',rfl⟩:∃n',n=n'+1:=⟨n-1,by omega⟩;rw[Rk,ak];simp only[kO,if_neg ag];exact aC n' (by omega)
   ·rw[kX aN h]
 have B2:∀(i j:Int),i∈ct c.up→j∈ct c.up→∃N o,(∀n,N≤n→gv n (.var i) (.var j) c=some o)∧iR c ρ (fun aN=>aN i=aN j) o:=by
  intro i j vI Fl;obtain⟨bH,ak,aU⟩:=sY hi.ru vI;obtain⟨cl,aC,bG⟩:=sY aU.ru (by rw[aU.keys];exact Fl:j∈ct bH.up);have sJ:=aU.trans bG;have hv:=hi.sm sJ;have vn:ρ i∈ct cl.up:=by rw[sJ.keys];exact(hi.ru.mem vI).1
  have Ry:ρ j∈ct cl.up:=by rw[sJ.keys];exact(hi.ru.mem Fl).1
  have vt:∀(bH:bs) (k5:Int→Int),lH bH k5→ct bH.up=ct cl.up→ib bH k5<ib cl ρ→∀a b:T,(∀w,a.occ w=true→w∈ct cl.up)→(∀w,b.occ w=true→w∈ct cl.up)→∃N o,(∀n,N≤n→gv n a b bH=some o)∧iR bH k5 (fun aN=>a.ap aN=b.ap aN) o:=fun c9 ρ3 J U ao a b bt ad=>Se c9 ρ3 J (by rw[wC sJ,c1]at ao;exact ao) a b (by rw[U];exact bt) (by rw[U];exact ad);rcases Int.lt_trichotomy (ρ i) (ρ j)with h|h|h
  ·obtain⟨N,o,bk,iJ⟩:=P3 hv (hi.ru.idem i) (hi.ru.idem j) h vn Ry vt;refine⟨N+1,o,fun n aA=>?_,iR.sm sJ (iR.congr (fun aN h=>?_) iJ)⟩
   ·obtain⟨n',rfl⟩:∃n',n=n'+1:=⟨n-1,by omega⟩;simp only[gv,ak,aC,kO];rw[if_neg (by omega),if_neg (by omega)];exact bk n' (by omega)
   ·rw[h.1 i,h.1 j]
  ·refine⟨1,(true,cl),fun n aA=>?_,sJ.keys,sJ.rest,fun _=>⟨ρ,hv,fun aN=>?_,.inl ⟨rfl,sJ.ph⟩⟩,fun e=>by cases e⟩
   ·obtain⟨n',rfl⟩:∃n',n=n'+1:=⟨n-1,by omega⟩;simp only[gv,ak,aC,kO,if_pos h]
   ·simp only[sJ.ph];exact⟨fun ag=>⟨ag,by rw[ag.1 i,ag.1 j,h]⟩,fun ag=>ag.1⟩
  ·obtain⟨N,o,bk,iJ⟩:=P3 hv (hi.ru.idem j) (hi.ru.idem i) h Ry vn vt;refine⟨N+1,o,fun n aA=>?_,iR.sm sJ (iR.congr (fun aN h=>?_) iJ)⟩
   ·obtain⟨n',rfl⟩:∃n',n=n'+1:=⟨n-1,by omega⟩;simp only[gv,ak,aC,kO];rw[if_neg (by omega),if_pos h];exact bk n' (by omega)
   ·rw[h.1 i,h.1 j];exact⟨Eq.symm,Eq.symm⟩
 have zo:∀(a:T) (j:Int),a.kind≠1→(∀n,gv (n+1) a (.var j) c=gv n (.var j) a c)→(∀n,gv (n+1) (.var j) a c=(rt c j).bind fun p=>if p.2.shd p.1=false then uj n p.1 a p.2 else gv n (p.2.shp p.1) a p.2)→j∈ct c.up→(∀w,a.occ w=true→w∈ct c.up)→((kM j).size+(a.ap kM).size)*3<m→∃N o,(∀n,N≤n→gv n a (.var j) c=some o)∧iR c ρ (fun aN=>a.ap aN=aN j) o:=by intro a j J U ao Fl bt bD;obtain⟨N,o,ak,cO⟩:=vA j a J ao Fl bt bD;refine⟨N+1,o,fun n aA=>?_,iR.congr (fun aN _=>⟨Eq.symm,Eq.symm⟩) cO⟩;obtain⟨n',rfl⟩:∃n',n=n'+1:=⟨n-1,by omega⟩;rw[U];exact ak n' (by omega)
 cases a with
 |var i=>
  have vI:i∈ct c.up:=bt i (by simp[T.occ]);cases b with
  |var j=>exact B2 i j vI (ad j (by simp[T.occ]))
  |_=>exact vA i _ (by simp[T.kind]) (fun n=>rfl) vI ad (by simp only[T.ap,tE]at hm⊢;omega)
 |pair bC a2=>
  cases b with
  |var j=>exact zo _ j (by simp[T.kind]) (fun n=>rfl) (fun n=>rfl) (ad j (by simp[T.occ])) bt (by simp only[T.ap,tE]at hm⊢;omega)
  |pair ch b6=>
   have sw:∀p q:T,tE p q≤2:=fun p q=>by cases p<;>cases q<;>simp[tE]
   have kT:∀w,bC.occ w=true→w∈ct c.up:=fun w hw=>bt w (by simp[T.occ,hw]);have pD:∀w,a2.occ w=true→w∈ct c.up:=fun w hw=>bt w (by simp[T.occ,hw]);have lf:∀w,ch.occ w=true→w∈ct c.up:=fun w hw=>ad w (by simp[T.occ,hw]);have oZ:∀w,b6.occ w=true→w∈ct c.up:=fun w hw=>ad w (by simp[T.occ,hw]);simp only[T.ap,T.size,tE]at hm;have f1:=sw bC ch;have f2:=sw a2 b6;obtain⟨hC,gP,ak,cO⟩:=zv _ (by rw[←hm];omega) c ρ bC ch kM hi uc kT lf c1 rfl;obtain⟨agk,bH⟩:=gP;cases agk with
   |false=>refine⟨hC+1,(false,bH),fun n aA=>?_,cO.keys,cO.rest,(fun e=>by cases e),fun _ aN ag he=>cO.no rfl aN ag (by simp only[T.ap,T.pair.injEq]at he;exact he.1)⟩;obtain⟨n',rfl⟩:∃n',n=n'+1:=⟨n-1,by omega⟩;simp only[gv,ak n' (by omega),kO,gS,if_false]
   |true=>
    obtain⟨k5,a6,bE,bX⟩:=cO.yes rfl;simp only at a6 bE bX;have xh:ct bH.up=ct c.up:=cO.keys;have BU:∃iS gG,(∀n,iS≤n→gv n a2 b6 bH=some gG)∧iR bH k5 (fun aN=>a2.ap aN=b6.ap aN) gG:=by
     rcases bX with⟨rfl,bX⟩|bX
     ·exact zv _ (by rw[←hm];omega) bH k5 a2 b6 kM a6 (by rw[bX];exact uc) (by rw[xh];exact pD) (by rw[xh];exact oZ) (by unfold ib;rw[xh,bX];exact c1) rfl
     ·exact Se bH k5 a6 (by omega) a2 b6 (by rw[xh];exact pD) (by rw[xh];exact oZ)
    obtain⟨iS,gG,aC,dp⟩:=BU;refine⟨max hC iS+1,gG,fun n aA=>?_,dp.keys.trans xh,?_,fun aJ=>?_,fun aJ aN ag he=>?_⟩
    ·obtain⟨n',rfl⟩:∃n',n=n'+1:=⟨n-1,by omega⟩;simp only[gv,ak n' (by omega),kO,if_true];exact aC n' (by omega)
    ·rw[dp.rest.1,dp.rest.2.1,dp.rest.2.2];exact cO.rest
    ·obtain⟨ρ2,s1,s2,s3⟩:=dp.yes aJ;refine⟨ρ2,s1,fun aN=>?_,?_⟩
     ·rw[s2 aN,bE aN];simp only[T.ap,T.pair.injEq,and_assoc]
     ·rcases bX with⟨rfl,bX⟩|bX
      ·rcases s3 with⟨rfl,s3⟩|s3
       ·exact .inl ⟨rfl,s3.trans bX⟩
       ·have:ib bH k5=ib c k5:=by unfold ib;rw[xh,bX]
        exact .inr (by omega)
      ·rcases s3 with⟨rfl,s3⟩|s3
       ·have:ib gG.2 ρ2=ib bH ρ2:=by unfold ib;rw[dp.keys,s3]
        exact .inr (by omega)
       ·exact .inr (by omega)
    ·simp only[T.ap,T.pair.injEq]at he;exact dp.no aJ aN ((bE aN).2 ⟨ag,he.1⟩) he.2
  |_=>exact Rh (fun n=>rfl) (fun aN=>by simp[T.ap]) (by simp)
 |_=>
  cases b with
  |var j=>exact zo _ j (by simp[T.kind]) (fun n=>rfl) (fun n=>rfl) (ad j (by simp[T.occ])) bt (by simp only[T.ap,tE]at hm⊢;omega)
  |_=>first|exact adM (fun n=>rfl) (fun aN=>rfl) (fun aN=>rfl)|exact Rh (fun n=>rfl) (fun aN=>by simp[T.ap]) (by simp)
end Go.Pv
namespace Go.Pv
open Go
def yl(rec:Int→bs→aY (Bool×bs))(v:Int)(a:bs×Bool):aY (bs×Bool):=if a.2=true then(rt a.1 v).bind fun p=>(rec p.1 p.2).map fun q=>(q.2,q.1)else some a
def ya(v:Int)(c:bs):aY (Int×bs):=(rt c v).map fun p=>(p.2.sz p.1,p.2)
def bs.grey(c:bs)(x:Int):bs:={c with color:=eJ x 1 c.color,size:=eJ x 1 c.size}
def bs.black(c:bs)(x:Int):bs:={c with color:=eJ x 2 c.color}
def p1:Nat→Int→bs→aY (Bool×bs)
 |0,_,_=>none
 |n+1,x,c=>if c.col x=2 then some (true,c)else if c.col x=1 then some (false,c)else
   if(c.grey x).shd x=false then some (true,(c.grey x).black x)else
   (((c.grey x).shp x).foldO (yl (p1 n)) (c.grey x,true)).bind fun a=>if a.2=false then some (false,a.1)else
   (((a.1.shp x).sizeO ya a.1).map fun p=>(true,{p.2 with size:=eJ x p.1 p.2.size}.black x))
def AG(rec:Int→bs→aY (T×bs))(v:Int)(c:bs):aY (T×bs):=(rt c v).bind fun p=>rec p.1 p.2
def p0:Nat→Int→bs→aY (T×bs)
 |0,_,_=>none
 |n+1,x,c=>match c3 x c.full with
  |some t=>some (t,c)
  |none=>if c.shd x=false then some (.var x,{c with full:=eJ x (.var x) c.full})else
   ((c.shp x).mapO (AG (p0 n)) c).map fun p=>(p.1,{p.2 with full:=eJ x p.1 p.2.full})
def rR(n:Nat):List Int→bs→List Int→aY (aY (List Int)×bs)
 |[],c,out=>some (some out,c)
 |v::bc,c,out=>(rt c v).bind fun p=>(p1 n p.1 p.2).bind fun q=>if q.1=false then some (none,q.2)else
   if p.1=v∧q.2.shd p.1=false then rR n bc q.2 out else
   if 5000<q.2.sz p.1∨400<out.length+1 then some (none,q.2)else rR n bc q.2 (out++[v])
def yb(n:Nat):List Int→bs→aY (List ar×bs)
 |[],c=>some ([],c)
 |v::bc,c=>(rt c v).bind fun p=>(p0 n p.1 p.2).bind fun q=>(yb n bc q.2).map fun r=>(⟨v,q.1⟩::r.1,r.2)
def C9(n:Nat)(bc:List Int)(c:bs):aY (aY (List ar)):=(rR n bc c []).bind fun a=>match a.1 with
 |none=>some none
 |some out=>(yb n out a.2).map fun r=>some r.1
def pz(n:Nat):List (T×T)→bs→aY (Bool×bs)
 |[],c=>some (true,c)
 |e::es,c=>(zG e.1 c).bind fun bH=>(zG e.2 bH).bind fun cl=>(gv n e.1 e.2 cl).bind fun p=>if p.1=true then pz n es p.2 else some (false,p.2)
theorem lH.rank{c:bs}{ρ:Int→Int}(h:lH c ρ):∃r:Int→Nat,∀z u,iQ c.ph ρ z u→r u<r z:=by
 obtain⟨aN,hk⟩:=h.sat
 exact⟨fun z=>(aN z).size,fun z u he=>GB h.sh hk he⟩
structure tl (V:List Int) (ph:Int→aY T) (ρ:Int→Int) (c:bs):Prop where
 ru:jq c.up ρ
 keys:ct c.up=V
 ph:c.ph=ph
theorem tl.sm{V:List Int}{ph:Int→aY T}{ρ:Int→Int}{c cr:bs}(h:tl V ph ρ c)(k:iv ρ c cr):tl V ph ρ cr:=⟨k.ru,k.keys.trans h.keys,k.ph.trans h.ph⟩
def cut(n:Nat):Int:=if 5001<(n:Int)then 5001 else n
section
variable {V:List Int} {ph:Int→aY T} {ρ:Int→Int} {r:Int→Nat}
theorem aj4(Dv:Int→T):∀(t:T) (c:bs),tl V ph ρ c→(∀w,t.occ w=true→w∈V∧c.sz (ρ w)=cut (Dv w).size)→∃cr,t.sizeO ya c=some (cut (t.ap Dv).size,cr)∧iv ρ c cr:=by
 intro t;induction t with
 |var v=>
  intro c h aO;obtain⟨aG,bp⟩:=aO v (by simp[T.occ]);obtain⟨bH,J,U⟩:=sY h.ru (by rw[h.keys];exact aG:v∈ct c.up);refine⟨bH,?_,U⟩;have:bH.sz (ρ v)=cut (Dv v).size:=by rw[←bp,U.eq];rfl
  simp only[T.sizeO,ya,J,nQ,this,T.ap,dG,jm,and_true];unfold cut;split<;>omega
 |pair a b dS dT=>
  intro c h aO;obtain⟨bH,J,aU⟩:=dS c h fun w hw=>aO w (by simp[T.occ,hw]);obtain⟨cl,U,bG⟩:=dT bH (h.sm aU) fun w hw=>⟨(aO w (by simp[T.occ,hw])).1,by rw[←(aO w (by simp[T.occ,hw])).2,aU.eq];rfl⟩;have ad:=T.size_pos (b.ap Dv);simp only[T.sizeO,J,kO,T.ap,T.size];by_cases au:5000<cut (a.ap Dv).size
  ·rw[if_pos au];refine⟨bH,?_,aU⟩;simp only[dG,jm,and_true];unfold cut at au⊢;split at au<;>split<;>(try split)<;>omega
  ·rw[if_neg au,U];refine⟨cl,?_,aU.trans bG⟩;simp only[nQ,dG,jm,and_true];unfold cut at au⊢;split at au<;>(repeat' split)<;>omega
 |_=>intro c h aO;exact⟨c,by simp[T.sizeO,T.ap,T.size,cut],iv.refl h.ru⟩
structure qc (V:List Int) (ph:Int→aY T) (ρ:Int→Int) (r:Int→Nat) (d:Nat) (c:bs):Prop where
 fin:tl V ph ρ c
 col:∀z,r z<d→c.col z=0∨(c.col z=2∧c.sz z=cut (gM ph ρ r z).size)
structure mG (ph:Int→aY T) (ρ:Int→Int) (r:Int→Nat) (d:Nat) (c cr:bs):Prop where
 full:cr.full=c.full
 hi:∀z,d≤r z→cr.col z=c.col z∧cr.sz z=c.sz z
 lo:∀z,c.col z=2→cr.col z=2∧cr.sz z=c.sz z
theorem mG.refl{c:bs}{d:Nat}:mG ph ρ r d c c:=⟨rfl,fun _ _=>⟨rfl,rfl⟩,fun _ h=>⟨h,rfl⟩⟩
theorem mG.trans{a b c:bs}{d:Nat}(h:mG ph ρ r d a b)(k:mG ph ρ r d b c):mG ph ρ r d a c:=⟨k.full.trans h.full,fun z bp=>⟨(k.hi z bp).1.trans (h.hi z bp).1,(k.hi z bp).2.trans (h.hi z bp).2⟩,fun z bp=>⟨(k.lo z (h.lo z bp).1).1,(k.lo z (h.lo z bp).1).2.trans (h.lo z bp).2⟩⟩
theorem mG.mono{a b:bs}{d cc:Nat}(aP:d≤cc)(h:mG ph ρ r d a b):mG ph ρ r cc a b:=⟨h.full,fun z bp=>h.hi z (by omega),h.lo⟩
theorem mG.sm{c cr:bs}{d:Nat}(k:iv ρ c cr):mG ph ρ r d c cr:=by
 have ak:∀z,cr.col z=c.col z:=fun z=>by rw[k.eq];rfl
 have aC:∀z,cr.sz z=c.sz z:=fun z=>by rw[k.eq];rfl
 exact⟨k.rest.2.2,fun z _=>⟨ak z,aC z⟩,fun z h=>⟨by rw[ak];exact h,aC z⟩⟩
theorem qc.sm{c cr:bs}{d:Nat}(h:qc V ph ρ r d c)(k:iv ρ c cr):qc V ph ρ r d cr:=by
 have ak:∀z,cr.col z=c.col z:=fun z=>by rw[k.eq];rfl
 have aC:∀z,cr.sz z=c.sz z:=fun z=>by rw[k.eq];rfl
 exact⟨h.fin.sm k,fun z bp=>by rw[ak,aC];exact h.col z bp⟩
theorem ame(gA:nV V ph)(eO:∀v,ρ (ρ v)=ρ v)(aK:∀z u,iQ ph ρ z u→r u<r z)(d:Nat):∀(x:Int) (c:bs),r x<d→ρ x=x→x∈V→qc V ph ρ r d c→
  ∃N cr,(∀n,N≤n→p1 n x c=some (true,cr))∧qc V ph ρ r d cr∧mG ph ρ r (r x+1) c cr∧cr.col x=2∧cr.sz x=cut (gM ph ρ r x).size:=by
 induction d using Nat.strongRecOn with
 |ind d bU=>
 intro x c aP ae jY hw;rcases hw.col x aP with bA|⟨U,ao⟩;rotate_left
 ·refine⟨1,c,fun n aA=>?_,hw,mG.refl,U,ao⟩;obtain⟨n',rfl⟩:∃n',n=n'+1:=⟨n-1,by omega⟩;simp only[p1,if_pos U]
 have w3:∀z,(c.grey x).col z=if z=x then 1 else c.col z:=fun z=>by simp only[bs.grey,bs.col,ng];split<;>rfl
 have Bm:∀z,(c.grey x).sz z=if z=x then 1 else c.sz z:=fun z=>by simp only[bs.grey,bs.sz,ng];split<;>rfl
 have yU:tl V ph ρ (c.grey x):=⟨hw.fin.ru,hw.fin.keys,hw.fin.ph⟩;have aez:qc V ph ρ r (r x) (c.grey x):=⟨yU,fun z bp=>by
  have cF:z≠x:=fun e=>by subst e;omega
  rw[w3,Bm,if_neg cF,if_neg cF];exact hw.col z (by omega)⟩
 have BJ:¬c.col x=2:=by omega
 have rk:¬c.col x=1:=by omega
 have e5:∀(e:bs) (z:Int),(e.black x).col z=(if z=x then 2 else e.col z):=fun e z=>by simp only[bs.black,bs.col,ng];split<;>rfl
 by_cases ag:(c.grey x).shd x=false
 ·have ji:ph x=none:=by rw[←yU.ph];exact zY ag
  have a1:gM ph ρ r x= .var x:=by rw[Bl (by rw[ae];exact ji),ae]
  have dX:∀z,((c.grey x).black x).sz z=if z=x then 1 else c.sz z:=Bm
  refine⟨1,(c.grey x).black x,fun n aA=>?_,⟨⟨yU.ru,yU.keys,yU.ph⟩,fun z bp=>?_⟩,⟨rfl,fun z bp=>?_,fun z bp=>?_⟩,?_,?_⟩
  ·obtain⟨n',rfl⟩:∃n',n=n'+1:=⟨n-1,by omega⟩;simp only[p1,if_neg BJ,if_neg rk,if_pos ag]
  ·rw[e5,dX,w3];by_cases e:z=x
   ·subst e;simp only[if_true,a1];exact .inr ⟨trivial,by simp[T.size,cut]⟩
   ·simp only[if_neg e];exact hw.col z bp
  ·have e:z≠x:=fun e=>by subst e;omega
   rw[e5,dX,w3];simp only[if_neg e];exact⟨trivial,trivial⟩
  ·have e:z≠x:=fun e=>by subst e;omega
   rw[e5,dX,w3];simp only[if_neg e];exact⟨bp,trivial⟩
  ·rw[e5,if_pos rfl]
  ·rw[dX,if_pos rfl,a1];simp[T.size,cut]
 ·have ji:ph x=some ((c.grey x).shp x):=by rw[←yU.ph];exact zZ ag
  obtain⟨g1,g2,g3⟩:=gA _ _ ji;have adr:∀(t:T) (e:bs),(∀w,t.occ w=true→((c.grey x).shp x).occ w=true)→qc V ph ρ r (r x) e→∃N fG,(∀n,N≤n→t.foldO (yl (p1 n)) (e,true)=some (fG,true))∧qc V ph ρ r (r x) fG∧mG ph ρ r (r x) e fG∧∀w,t.occ w=true→fG.col (ρ w)=2∧fG.sz (ρ w)=cut (gM ph ρ r w).size:=by
   intro t;induction t with
   |var v=>intro e mU he;have aG:=g2 v (mU v (by simp[T.occ]));have vu:r (ρ v)<r x:=aK x (ρ v) ⟨ae,_,v,ji,mU v (by simp[T.occ]),rfl⟩;obtain⟨ak,a6,aU⟩:=sY he.fin.ru (by rw[he.fin.keys];exact aG:v∈ct e.up);obtain⟨N,aC,bE,ds,dp,cl,s2⟩:=bU (r x) aP (ρ v) ak vu (eO v) (by rw[←he.fin.keys];exact(he.fin.ru.mem (by rw[he.fin.keys];exact aG)).1) (he.sm aU);refine⟨N,aC,fun n aA=>by simp[T.foldO,yl,a6,bE n aA],ds,(mG.sm aU).trans (dp.mono (by omega)),fun w hw=>?_⟩;simp[T.occ]at hw;subst hw;exact⟨cl,by rw[s2,←yV eO]⟩
   |pair a b dS dT=>
    intro e mU he;obtain⟨hC,ak,a6,ec,cO,s1⟩:=dS e (fun w hw=>mU w (by simp[T.occ,hw])) he;obtain⟨iS,aC,bE,ds,dp,s2⟩:=dT ak (fun w hw=>mU w (by simp[T.occ,hw])) ec;refine⟨max hC iS,aC,fun n aA=>by simp only[T.foldO];rw[a6 n (by omega)];exact bE n (by omega),ds,cO.trans dp,fun w hw=>?_⟩;simp only[T.occ,mA]at hw;rcases hw with hw|hw
    ·obtain⟨kL,z2⟩:=s1 w hw;exact⟨(dp.lo _ kL).1,by rw[(dp.lo _ kL).2];exact z2⟩
    ·exact s2 w hw
   |_=>intro e _ he;exact⟨0,e,fun n _=>rfl,he,mG.refl,fun w hw=>by simp[T.occ]at hw⟩
  obtain⟨N,e,a6,ec,cO,s1⟩:=adr ((c.grey x).shp x) (c.grey x) (fun w h=>h) aez;have aek:e.shp x=(c.grey x).shp x:=by
   have J:e.ph x=some ((c.grey x).shp x):=by rw[ec.fin.ph];exact ji
   unfold bs.ph at J;split at J
   ·exact fj J
   ·cases J
  obtain⟨aC,bE,bG⟩:=aj4 (V:=V) (ph:=ph) (ρ:=ρ) (gM ph ρ r) ((c.grey x).shp x) e ec.fin (fun w hw=>⟨g2 w hw,(s1 w hw).2⟩);have mg:gM ph ρ r x=((c.grey x).shp x).ap (gM ph ρ r):=yW eO aK (by rw[ae];exact ji);have ES:=cO.trans (mG.sm (ph:=ph) (r:=r) (d:=r x) bG);have ds:=ec.sm bG;let bk:bs:={aC with size:=eJ x (cut (gM ph ρ r x).size) aC.size}.black x
  have c9:∀z,bk.col z=if z=x then 2 else aC.col z:=fun z=>e5 _ z
  have s3:∀z,bk.sz z=if z=x then cut (gM ph ρ r x).size else aC.sz z:=fun z=>by show(c3 z (eJ x _ aC.size)).getD 0=_;rw[ng];split<;>rfl
  refine⟨N+1,bk,fun n aA=>?_,⟨⟨ds.fin.ru,ds.fin.keys,ds.fin.ph⟩,fun z bp=>?_⟩,⟨ES.full,fun z bp=>?_,fun z bp=>?_⟩,by rw[c9,if_pos rfl],by rw[s3,if_pos rfl]⟩
  ·obtain⟨n',rfl⟩:∃n',n=n'+1:=⟨n-1,by omega⟩;simp only[p1,if_neg BJ,if_neg rk,if_neg ag,a6 n' (by omega),kO,Bool.true_eq_false,if_false,aek,bE,nQ,mg,bk]
  ·rw[c9,s3];by_cases nu:z=x
   ·subst nu;simp only[if_true];exact .inr ⟨trivial,trivial⟩
   ·simp only[if_neg nu];by_cases bD:r z<r x
    ·exact ds.col z bD
    ·obtain⟨bC,a2⟩:=ES.hi z (by omega);rw[bC,a2,w3,Bm,if_neg nu,if_neg nu];exact hw.col z bp
  ·have nu:z≠x:=fun e=>by subst e;omega
   obtain⟨bC,a2⟩:=ES.hi z (by omega);rw[c9,s3,if_neg nu,if_neg nu,bC,a2,w3,Bm,if_neg nu,if_neg nu];exact⟨rfl,rfl⟩
  ·have nu:z≠x:=fun e=>by subst e;omega
   obtain⟨bC,a2⟩:=ES.lo z (by rw[w3,if_neg nu];exact bp);rw[c9,s3,if_neg nu,if_neg nu,bC,a2,Bm,if_neg nu];exact⟨rfl,rfl⟩
structure qS (V:List Int) (ph:Int→aY T) (ρ:Int→Int) (r:Int→Nat) (c:bs):Prop where
 fin:tl V ph ρ c
 full:∀x t,c3 x c.full=some t→t=gM ph ρ r x
theorem qS.sm{c cr:bs}(h:qS V ph ρ r c)(k:iv ρ c cr):qS V ph ρ r cr:=⟨h.fin.sm k,by rw[k.rest.2.2];exact h.full⟩
theorem amc(gA:nV V ph)(eO:∀v,ρ (ρ v)=ρ v)(aK:∀z u,iQ ph ρ z u→r u<r z)(d:Nat):∀(x:Int) (c:bs),r x<d→ρ x=x→x∈V→qS V ph ρ r c→
  ∃N cr,(∀n,N≤n→p0 n x c=some (gM ph ρ r x,cr))∧qS V ph ρ r cr:=by
 induction d with
 |zero=>intro x c h;omega
 |succ d bU=>
 intro x c aP ae jY aG;cases aJ:c3 x c.full with
 |some t=>refine⟨1,c,fun n aA=>?_,aG⟩;obtain⟨n',rfl⟩:∃n',n=n'+1:=⟨n-1,by omega⟩;simp only[p0,aJ,aG.full x t aJ]
 |none=>
  have RV:∀(e:bs),qS V ph ρ r e→qS V ph ρ r {e with full:=eJ x (gM ph ρ r x) e.full}:=fun e he=>⟨⟨he.fin.ru,he.fin.keys,he.fin.ph⟩,fun z t bp=>by
   have rz:c3 z (eJ x (gM ph ρ r x) e.full)=some t:=bp;rw[ng]at rz;split at rz
   ·rename_i e;subst e;cases rz;rfl
   ·exact he.full z t rz⟩
  by_cases ag:c.shd x=false
  ·have ji:ph x=none:=by rw[←aG.fin.ph];exact zY ag
   have a1:gM ph ρ r x= .var x:=by rw[Bl (by rw[ae];exact ji),ae]
   refine⟨1,_,fun n aA=>?_,RV c aG⟩;obtain⟨n',rfl⟩:∃n',n=n'+1:=⟨n-1,by omega⟩;simp only[p0,aJ,if_pos ag,a1]
  ·have ji:ph x=some (c.shp x):=by rw[←aG.fin.ph];exact zZ ag
   obtain⟨g1,g2,g3⟩:=gA _ _ ji;have adQ:∀(t:T) (e:bs),(∀w,t.occ w=true→(c.shp x).occ w=true)→qS V ph ρ r e→∃N fG,(∀n,N≤n→t.mapO (AG (p0 n)) e=some (t.ap (gM ph ρ r),fG))∧qS V ph ρ r fG:=by
    intro t;induction t with
    |var v=>intro e mU he;have vz:=g2 v (mU v (by simp[T.occ]));have vu:r (ρ v)<r x:=aK x (ρ v) ⟨ae,_,v,ji,mU v (by simp[T.occ]),rfl⟩;obtain⟨ak,a6,aU⟩:=sY he.fin.ru (by rw[he.fin.keys];exact vz:v∈ct e.up);obtain⟨N,aC,bE,ds⟩:=bU (ρ v) ak (by omega) (eO v) (by rw[←he.fin.keys];exact(he.fin.ru.mem (by rw[he.fin.keys];exact vz)).1) (he.sm aU);exact⟨N,aC,fun n aA=>by simp only[T.mapO,AG,a6,kO,bE n aA,T.ap];rw[←yV eO],ds⟩
    |pair a b dS dT=>intro e mU he;obtain⟨hC,ak,a6,ec⟩:=dS e (fun w hw=>mU w (by simp[T.occ,hw])) he;obtain⟨iS,aC,bE,ds⟩:=dT ak (fun w hw=>mU w (by simp[T.occ,hw])) ec;exact⟨max hC iS,aC,fun n aA=>by simp only[T.mapO,a6 n (by omega),kO,bE n (by omega),nQ,T.ap],ds⟩
    |_=>intro e _ he;exact⟨0,e,fun n _=>rfl,he⟩
   obtain⟨N,e,a6,ec⟩:=adQ (c.shp x) c (fun w h=>h) aG;have mg:gM ph ρ r x=(c.shp x).ap (gM ph ρ r):=yW eO aK (by rw[ae];exact ji);refine⟨N+1,_,fun n aA=>?_,RV e ec⟩;obtain⟨n',rfl⟩:∃n',n=n'+1:=⟨n-1,by omega⟩;simp only[p0,aJ,if_neg ag,a6 n' (by omega),nQ,mg]
def nt(ph:Int→aY T)(ρ:Int→Int)(v:Int):Bool:= !(decide (ρ v=v)&&(ph v).isNone)
theorem aj7(gA:nV V ph)(eO:∀v,ρ (ρ v)=ρ v)(aK:∀z u,iQ ph ρ z u→r u<r z)(jw:∀v∈V,ρ v∈V):∀(bc:List Int) (c:bs) (out:List Int),(∀v∈bc,v∈V)→(∀d,qc V ph ρ r d c)→out.length≤400→(∀v∈out,(gM ph ρ r v).size≤5000)→
  ∃N cr o,(∀n,N≤n→rR n bc c out=some (o,cr))∧tl V ph ρ cr∧cr.full=c.full∧(∀l,o=some l→l=out++bc.filter (nt ph ρ)∧l.length≤400∧∀v∈l,(gM ph ρ r v).size≤5000)∧(o=none→¬((out++bc.filter (nt ph ρ)).length≤400∧∀v∈out++bc.filter (nt ph ρ),(gM ph ρ r v).size≤5000)):=by
 intro bc;induction bc with
 |nil=>intro c out _ hw J U;exact⟨0,c,some out,fun n _=>rfl,(hw 0).fin,rfl,fun l e=>by cases e;simp;exact⟨J,U⟩,fun e=>by cases e⟩
 |cons v bc bU=>
  intro c out aG hw J U;have vz:=aG v (by simp);obtain⟨bH,a6,aU⟩:=sY (hw 0).fin.ru (by rw[(hw 0).fin.keys];exact vz:v∈ct c.up);have E1:∀d,qc V ph ρ r d bH:=fun d=>(hw d).sm aU;obtain⟨hC,cl,bE,ds,dp,aC,s2⟩:=ame gA eO aK (r (ρ v)+1) (ρ v) bH (by omega) (eO v) (jw v vz) (E1 _);have og:∀d,qc V ph ρ r d cl:=fun d=>⟨ds.fin,fun z bp=>by
   by_cases bD:r z<r (ρ v)+1
   ·exact ds.col z bD
   ·obtain⟨bC,a2⟩:=dp.hi z (by omega);rw[bC,a2];exact(E1 d).col z bp⟩
  have I9:cl.full=c.full:=dp.full.trans aU.rest.2.2;have R3:(cl.shd (ρ v)=false)=((ph (ρ v)).isNone=true):=by rw[←ds.fin.ph];unfold bs.ph;cases cl.shd (ρ v)<;>simp
  have jz:∀n,hC≤n→rR n (v::bc) c out=(if ρ v=v∧cl.shd (ρ v)=false then rR n bc cl out else if 5000<cl.sz (ρ v)∨400<out.length+1 then some (none,cl)else rR n bc cl (out++[v])):=fun n aA=>by simp only[rR,a6,kO,bE n aA,Bool.true_eq_false,if_false]
  have Ru:gM ph ρ r (ρ v)=gM ph ρ r v:=(yV eO v).symm;by_cases au:ρ v=v∧cl.shd (ρ v)=false
  ·have ad:nt ph ρ v=false:=by have ao:=au.2;rw[R3]at ao;rw[au.1]at ao;simp[nt,au.1,ao]
   obtain⟨iS,c9,o,bX,f3,pZ,GY,iX⟩:=bU cl out (fun w hw=>aG w (by simp[hw])) og J U;refine⟨max hC iS,c9,o,fun n aA=>by rw[jz n (by omega),if_pos au];exact bX n (by omega),f3,pZ.trans I9,?_,?_⟩
   ·simp only[List.filter_cons,ad,gS,if_false];exact GY
   ·simp only[List.filter_cons,ad,gS,if_false];exact iX
  ·have ad:nt ph ρ v=true:=by
    cases e:nt ph ρ v with
    |true=>rfl
    |false=>simp only[nt,Bool.not_eq_false',cC,fk]at e;exact absurd ⟨e.1,by rw[R3,e.1];exact e.2⟩ au
   by_cases av:5000<cl.sz (ρ v)∨400<out.length+1
   ·refine⟨hC,cl,none,fun n aA=>by rw[jz n aA,if_neg au,if_pos av],ds.fin,I9,(fun l e=>by cases e),fun _=>?_⟩;simp only[List.filter_cons,ad,if_true];rintro⟨bC,a2⟩;rcases av with av|av
    ·rw[s2,Ru]at av;have:=a2 v (by simp);unfold cut at av;split at av<;>omega
    ·simp at bC;omega
   ·have bp:(gM ph ρ r v).size≤5000:=by have:¬5000<cl.sz (ρ v):=fun h=>av (.inl h);rw[s2,Ru]at this;unfold cut at this;split at this<;>omega
    obtain⟨iS,c9,o,bX,f3,pZ,GY,iX⟩:=bU cl (out++[v]) (fun w hw=>aG w (by simp[hw])) og (by simp;omega) (fun w hw=>by
     rcases ky.1 hw with hw|hw
     ·exact U w hw
     ·simp at hw;subst hw;exact bp)
    refine⟨max hC iS,c9,o,fun n aA=>by rw[jz n (by omega),if_neg au,if_neg av];exact bX n (by omega),f3,pZ.trans I9,?_,?_⟩
    ·simp only[List.filter_cons,ad,if_true];simpa using GY
    ·simp only[List.filter_cons,ad,if_true];simpa using iX
theorem aj8(gA:nV V ph)(eO:∀v,ρ (ρ v)=ρ v)(aK:∀z u,iQ ph ρ z u→r u<r z)(jw:∀v∈V,ρ v∈V):∀(bc:List Int) (c:bs),(∀v∈bc,v∈V)→qS V ph ρ r c→∃N cr,∀n,N≤n→yb n bc c=some (bc.map fun v=>⟨v,gM ph ρ r v⟩,cr):=by
 intro bc;induction bc with
 |nil=>intro c _ _;exact⟨0,c,fun n _=>rfl⟩
 |cons v bc bU=>intro c aG hw;have vz:=aG v (by simp);obtain⟨bH,a6,aU⟩:=sY hw.fin.ru (by rw[hw.fin.keys];exact vz:v∈ct c.up);obtain⟨hC,cl,bE,ds⟩:=amc gA eO aK (r (ρ v)+1) (ρ v) bH (by omega) (eO v) (jw v vz) (hw.sm aU);obtain⟨iS,c9,bX⟩:=bU cl (fun w hw=>aG w (by simp[hw])) ds;refine⟨max hC iS,c9,fun n aA=>?_⟩;simp only[yb,a6,kO,bE n (by omega),bX n (by omega),nQ,hf];rw[←yV eO]
end
end Go.Pv
namespace Go.Pv
open Go
def bs.new:bs:=⟨[],[],[],[],[],[]⟩
def qF(l:List Int):List Int:=l.mergeSort fun x y=>decide (x≤y)
def Au(n:Nat)(E:List (T×T)):aY (aY (List ar)):=(pz n E bs.new).bind fun p=>if p.1=false then some none else C9 n (qF (ct p.2.up)) p.2
theorem Dc(l:List Int):(qF l).Perm l:=List.mergeSort_perm l _
theorem akm{l:List Int}(h:l.Nodup):(qF l).Pairwise (· < ·):=by have J:(qF l).Pairwise fun x y=>decide (x≤y)=true:=List.pairwise_mergeSort (fun a b c=>by simp;omega) (fun a b=>by simp;omega) l;have U:(qF l).Pairwise (· ≠ ·):=List.nodup_iff_pairwise_ne.1 ((Dc l).nodup_iff.2 h);exact(J.and U).imp fun h=>by simp at h;omega
structure Xd (c:bs) (ρ:Int→Int) (cr:bs) (TQ:Int→Prop):Prop where
 inv:lH cr ρ
 ph:cr.ph=c.ph
 nd:(ct cr.up).Nodup
 sub:∀v∈ct c.up,v∈ct cr.up
 occ:∀v,TQ v→v∈ct cr.up
 rest:cr.color=c.color∧cr.size=c.size∧cr.full=c.full
 new:∀v∈ct cr.up,v∈ct c.up∨TQ v
theorem Tu{ρ:Int→Int}(t:T):∀(c:bs),lH c ρ→(ct c.up).Nodup→(∀v,t.occ v=true→0≤v)→∃cr,zG t c=some cr∧Xd c ρ cr fun v=>t.occ v=true:=by
 unfold zG;induction t with
 |var v=>
  intro c hi aA bA;by_cases aG:v∈ct c.up
  ·obtain⟨bH,a6,aU⟩:=sY hi.ru aG;refine⟨bH,by simp[T.foldO,a6],hi.sm aU,aU.ph,by rw[aU.keys];exact aA,fun w hw=>by rw[aU.keys];exact hw,fun w hw=>?_,aU.rest,fun w hw=>.inl (by rw[aU.keys]at hw;exact hw)⟩;simp[T.occ]at hw;subst hw;rw[aU.keys];exact aG
  ·obtain⟨a6,bE,bX⟩:=ajK hi.ru (bA v (by simp[T.occ])) aG;refine⟨{c with up:=eJ v v c.up},by simp only[T.foldO,a6,nQ],⟨bE,?_,hi.sat⟩,rfl,?_,fun w hw=>by rw[bX];simp[hw],fun w hw=>?_,⟨rfl,rfl,rfl⟩,fun w hw=>?_⟩
   ·intro x u ae;obtain⟨bC,a2,a3⟩:=hi.sh x u ae;refine⟨bC,fun w hw=>?_,?_⟩
    ·show w∈ct (eJ v v c.up);rw[bX];simp[a2 w hw]
    ·show x∈ct (eJ v v c.up);rw[bX];simp[a3]
   ·rw[bX];rw[List.nodup_append];exact⟨aA,by simp,fun a bt b ad e=>by simp at ad;subst ad;subst e;exact aG bt⟩
   ·simp[T.occ]at hw;subst hw;rw[bX];simp
   ·rw[bX]at hw;simp at hw;rcases hw with hw|rfl;exact .inl hw;exact .inr (by simp[T.occ])
 |pair a b dS dT=>
  intro c hi aA bA;obtain⟨bH,a6,m1⟩:=dS c hi aA fun v aG=>bA v (by simp[T.occ,aG]);obtain⟨cl,bE,m2⟩:=dT bH m1.inv m1.nd fun v aG=>bA v (by simp[T.occ,aG]);refine⟨cl,by simp only[T.foldO,a6,kO,bE],m2.inv,m2.ph.trans m1.ph,m2.nd,fun v aG=>m2.sub v (m1.sub v aG),fun v aG=>?_,?_,fun v aG=>?_⟩
  ·simp only[T.occ,mA]at aG;rcases aG with aG|aG
   ·exact m2.sub v (m1.occ v aG)
   ·exact m2.occ v aG
  ·rw[m2.rest.1,m2.rest.2.1,m2.rest.2.2];exact m1.rest
  ·rcases m2.new v aG with h|h
   ·rcases m1.new v h with h|h
    ·exact .inl h
    ·exact .inr (by simp[T.occ,h])
   ·exact .inr (by simp[T.occ,h])
 |_=>intro c hi aA bA;exact⟨c,rfl,hi,rfl,aA,fun v aG=>aG,fun v aG=>by simp[T.occ]at aG,⟨rfl,rfl,rfl⟩,fun v aG=>.inl aG⟩
def KD(E:List (T×T)):Prop:= ∀e∈E,∀v,(e.1.occ v=true∨e.2.occ v=true)→0≤v
theorem A7:∀(E:List (T×T)) (c:bs) (ρ:Int→Int),lH c ρ→(ct c.up).Nodup→KD E→∃N o,(∀n,N≤n→pz n E c=some o)∧((o.2.color=c.color∧o.2.size=c.size∧o.2.full=c.full)∧∀v∈ct o.2.up,v∈ct c.up∨ ∃e∈E,e.1.occ v=true∨e.2.occ v=true)∧(o.1=true→∃ρ',lH o.2 ρ'∧(ct o.2.up).Nodup∧∀aN,jV o.2.ph ρ' aN↔jV c.ph ρ aN∧jr E aN)∧(o.1=false→∀aN,jV c.ph ρ aN→¬jr E aN):=by
 intro E;induction E with
 |nil=>intro c ρ hi aA _;exact⟨0,(true,c),fun n _=>rfl,⟨⟨rfl,rfl,rfl⟩,fun v aG=>.inl aG⟩,fun _=>⟨ρ,hi,aA,fun aN=>⟨fun h=>⟨h,Db aN⟩,fun h=>h.1⟩⟩,fun e=>by cases e⟩
 |cons e E bU=>
  intro c ρ hi aA bA;obtain⟨bH,a6,m1⟩:=Tu e.1 c hi aA fun v aG=>bA e (by simp) v (.inl aG);obtain⟨cl,bE,m2⟩:=Tu e.2 bH m1.inv m1.nd fun v aG=>bA e (by simp) v (.inr aG);obtain⟨kM,uc⟩:=m2.inv.sat
  obtain⟨hC,gP,bX,iJ⟩:=YU _ _ cl ρ e.1 e.2 kM m2.inv uc (fun w hw=>m2.sub w (m1.occ w hw)) (fun w hw=>m2.occ w hw) rfl rfl;have ji:cl.ph=c.ph:=m2.ph.trans m1.ph;have me:gP.2.color=c.color∧gP.2.size=c.size∧gP.2.full=c.full:=by rw[iJ.rest.1,iJ.rest.2.1,iJ.rest.2.2,m2.rest.1,m2.rest.2.1,m2.rest.2.2];exact m1.rest
  have EL:∀v∈ct gP.2.up,v∈ct c.up∨e.1.occ v=true∨e.2.occ v=true:=fun v aG=>by
   rw[iJ.keys]at aG;rcases m2.new v aG with h|h
   ·rcases m1.new v h with h|h
    ·exact .inl h
    ·exact .inr (.inl h)
   ·exact .inr (.inr h)
  obtain⟨f,c9⟩:=gP;cases f with
  |false=>refine⟨hC,(false,c9),fun n aA=>?_,⟨me,fun v aG=>(EL v aG).imp id fun h=>⟨e,by simp,h⟩⟩,(fun e=>by cases e),fun _ aN ag he=>iJ.no rfl aN (by rw[ji];exact ag) (qD.1 he).1⟩;simp only[pz,a6,bE,kO,bX n aA,gS,if_false]
  |true=>
   obtain⟨k5,bC,a2,_⟩:=iJ.yes rfl;simp only at bC a2;obtain⟨iS,gG,ch,b6,fC,nW⟩:=bU c9 k5 bC (by have:=iJ.keys;simp only at this;rw[this];exact m2.nd) fun fG he=>bA fG (by simp[he]);refine⟨max hC iS,gG,fun n aA=>?_,?_,fun aJ=>?_,fun aJ aN ag he=>?_⟩
   ·simp only[pz,a6,bE,kO,bX n (by omega),if_true];exact ch n (by omega)
   ·refine⟨by rw[b6.1.1,b6.1.2.1,b6.1.2.2];exact me,fun v aG=>?_⟩;rcases b6.2 v aG with h|⟨fG,J,U⟩
    ·exact(EL v h).imp id fun h=>⟨e,by simp,h⟩
    ·exact .inr ⟨fG,by simp[J],U⟩
   ·obtain⟨ρ2,d1,d2,d3⟩:=fC aJ;exact⟨ρ2,d1,d2,fun aN=>by rw[d3 aN,a2 aN,ji,qD,and_assoc]⟩
   ·exact nW aJ aN ((a2 aN).2 ⟨by rw[ji];exact ag,(qD.1 he).1⟩) (qD.1 he).2
theorem DM{ph:Int→aY T}{ρ:Int→Int}{v:Int}:nt ph ρ v=false↔ρ v=v∧ph v=none:=by simp[nt]
theorem Q1{ph:Int→aY T}{ρ:Int→Int}{r:Int→Nat}(eO:∀v,ρ (ρ v)=ρ v):∀(n:Nat) (v w:Int),(mI ph ρ n v).occ w=true→(∀z u,iQ ph ρ z u→r u<r z)→r (ρ v)<n→ρ w=w∧ph w=none
 |0,v,w,_,_,h=>by omega
 |n+1,v,w,h,aK,aA=>by
  simp only[mI]at h;cases e:ph (ρ v)with
  |none=>rw[e]at h;simp[T.occ]at h;subst h;exact⟨eO v,e⟩
  |some t=>rw[e]at h;obtain⟨u,J,U⟩:=Cz.1 h;have:=aK (ρ v) (ρ u) ⟨eO v,t,u,e,J,rfl⟩;exact Q1 eO n u w U aK (by omega)
section
variable {V:List Int} {ph:Int→aY T} {ρ:Int→Int} {r:Int→Nat}
def sZ(ph:Int→aY T)(ρ:Int→Int)(r:Int→Nat)(V:List Int):List ar:=((qF V).filter (nt ph ρ)).map fun v=>⟨v,gM ph ρ r v⟩
theorem LR(aA:V.Nodup):hB (sZ ph ρ r V):=by unfold sZ;rw[hB,List.pairwise_map];exact((akm aA).filter _)
theorem VG(aA:V.Nodup)(gA:nV V ph)(cB:∀v,v∉V→ρ v=v)(v:Int):df (sZ ph ρ r V) v=if nt ph ρ v then some (gM ph ρ r v)else none:=by
 by_cases ad:nt ph ρ v=true
 ·rw[if_pos ad];have aG:v∈V:=by
   refine Classical.byContradiction fun h=>?_;have J:=cB v h;have U:ph v=none:=by cases e:ph v with
    |none=>rfl
    |some t=>exact absurd (gA v t e).2.2 h
   rw[DM.2 ⟨J,U⟩]at ad;cases ad
  have:(⟨v,gM ph ρ r v⟩:ar)∈sZ ph ρ r V:=iP.2 ⟨v,nl.2 ⟨(Dc V).mem_iff.2 aG,ad⟩,rfl⟩;exact tA (LR aA) this
 ·rw[if_neg ad];refine uZ.2 fun b fP e=>?_;obtain⟨u,J,rfl⟩:=iP.1 fP;simp only at e;subst e;exact ad (nl.1 J).2
theorem aka(aA:V.Nodup)(gA:nV V ph)(cB:∀v,v∉V→ρ v=v)(eO:∀v,ρ (ρ v)=ρ v)(hle:∀v,ρ v≤v)(aK:∀z u,iQ ph ρ z u→r u<r z):fB (sZ ph ρ r V):=by
 refine⟨LR aA,fun b ad w hw=>?_,fun b ad w hw=>?_⟩
 ·obtain⟨u,J,rfl⟩:=iP.1 ad;rw[VG aA gA cB];have:=Q1 eO _ u w hw aK (by omega);rw[DM.2 this];rfl
 ·obtain⟨u,J,rfl⟩:=iP.1 ad;have oZ:=(nl.1 J).2;simp only at hw⊢;cases e:ph (ρ u)with
  |none=>
   rw[Bl e]at hw;cases hw;have U:=hle u;have ao:ρ u≠u:=fun h=>by rw[DM.2 ⟨h,by rw[h]at e;exact e⟩]at oZ;cases oZ
   omega
  |some t=>rw[yW eO aK e]at hw;have:=(gA _ _ e).1;cases t<;>simp[T.ap,T.kind]at hw this
theorem acN(eO:∀v,ρ (ρ v)=ρ v)(aK:∀z u,iQ ph ρ z u→r u<r z)(aN:Int→T):jV ph ρ aN↔∀v,aN v=(gM ph ρ r v).ap aN:=by
 constructor
 ·intro h;have:∀(n:Nat) (v:Int),r (ρ v)<n→aN v=(gM ph ρ r v).ap aN:=by
   intro n;induction n with
   |zero=>intro v h;omega
   |succ n bU=>
    intro v aG;cases e:ph (ρ v)with
    |none=>rw[Bl e];exact h.1 v
    |some t=>rw[yW eO aK e,AU,h.1 v,h.2 _ t (eO v) e];refine tx fun w hw=>bU w ?_;have:=aK (ρ v) (ρ w) ⟨eO v,t,w,e,hw,rfl⟩;omega
  exact fun v=>this _ v (Nat.lt_succ_self _)
 ·intro h;refine⟨fun v=>by rw[h v,h (ρ v),←yV eO],fun x t ae aO=>?_⟩;rw[h x,yW eO aK (by rw[ae];exact aO),AU];exact tx fun w _=>(h w).symm
theorem aj9(aA:V.Nodup)(gA:nV V ph)(cB:∀v,v∉V→ρ v=v)(eO:∀v,ρ (ρ v)=ρ v)(aK:∀z u,iQ ph ρ z u→r u<r z)(aN:Int→T):gL (sZ ph ρ r V) aN↔jV ph ρ aN:=by
 rw[acN eO aK,akg (LR aA)];refine forall_congr' fun v=>?_;rw[bR,VG aA gA cB];cases e:nt ph ρ v with
 |true=>simp
 |false=>obtain⟨J,U⟩:=DM.1 e;rw[Bl (by rw[J];exact U),J];simp
end
theorem akh(E:List (T×T))(bA:KD E):∃n o,Au n E=some o∧iw [] E o∧∀c,pz n E bs.new=some (true,c)→(ct c.up).Nodup∧(∀v∈ct c.up,∃e∈E,e.1.occ v=true∨e.2.occ v=true)∧c.size=[]:=by
 have hi:lH bs.new id:=⟨⟨fun v u h=>by simp[bs.new,c3]at h,fun v _=>rfl⟩,fun x t h=>by simp[bs.new,bs.ph,bs.shd,c3]at h,⟨.var,fun v=>rfl,fun x t _ h=>by simp[bs.new,bs.ph,bs.shd,c3]at h⟩⟩;have tO:∀aN,jV bs.new.ph id aN:=fun aN=>⟨fun v=>rfl,fun x t _ h=>by simp[bs.new,bs.ph,bs.shd,c3]at h⟩;obtain⟨hC,gP,a6,cO,dp,iJ⟩:=A7 E bs.new id hi (by simp[bs.new,ct]) bA;obtain⟨cO,Uk⟩:=cO;obtain⟨f,c⟩:=gP;cases f with
 |false=>refine⟨hC,none,by simp[Au,a6 hC (eR _)],DI fun aN _ he=>iJ rfl aN (tO aN) he,fun c h=>?_⟩;rw[a6 hC (eR _)]at h;cases h
 |true=>
  obtain⟨ρ,bC,a2,a3⟩:=dp rfl;simp only at bC a2 a3 cO Uk;have Rq:∀n,hC≤n→∀cr,pz n E bs.new=some (true,cr)→(ct cr.up).Nodup∧(∀v∈ct cr.up,∃e∈E,e.1.occ v=true∨e.2.occ v=true)∧cr.size=[]:=fun n aA cr h=>by rw[a6 n aA]at h;cases h;exact⟨a2,fun v aG=>(Uk v aG).resolve_left (by simp[bs.new,ct]),cO.2.1⟩
  obtain⟨r,aK⟩:=bC.rank;have eO:=bC.ru.idem;have jw:∀v∈ct c.up,ρ v∈ct c.up:=fun v aG=>(bC.ru.mem aG).1;have dC:tl (ct c.up) c.ph ρ c:=⟨bC.ru,rfl,rfl⟩;have hw:∀d,qc (ct c.up) c.ph ρ r d c:=fun d=>⟨dC,fun z _=>.inl (by simp[bs.col,cO.1,bs.new,c3])⟩;obtain⟨iS,cl,o,ch,b6,fC,nW,Nd⟩:=aj7 bC.sh eO aK jw (qF (ct c.up)) c [] (fun v aG=>(Dc _).mem_iff.1 aG) hw (by simp) (fun v aG=>by simp at aG);have dB:=aka (r:=r) a2 bC.sh bC.ru.no eO bC.ru.le aK;have kX:∀aN,gL (sZ c.ph ρ r (ct c.up)) aN↔gL [] aN∧jr E aN:=fun aN=>by rw[aj9 a2 bC.sh bC.ru.no eO aK,a3 aN];exact⟨fun h=>⟨fun b ad=>by simp at ad,h.2⟩,fun h=>⟨tO aN,h.2⟩⟩
  have Rs:gi (sZ c.ph ρ r (ct c.up))↔(([]++(qF (ct c.up)).filter (nt c.ph ρ)).length≤400∧∀v∈[]++(qF (ct c.up)).filter (nt c.ph ρ),(gM c.ph ρ r v).size≤5000):=by unfold gi sZ;simp only[List.length_map,bY,iP,forall_exists_index,and_imp,forall_apply_eq_imp_iff₂]
  cases o with
  |none=>refine⟨max hC iS,none,by simp[Au,a6 (max hC iS) (by omega),C9,ch (max hC iS) (by omega)],?_,Rq _ (by omega)⟩;exact fun ai J U ao=>Nd rfl (Rs.1 (Qu dB J (fun aN hk=>(kX aN).2 (U aN hk)) ao))
  |some l=>
   obtain⟨ak,aC,bk⟩:=nW l rfl;have aew:qS (ct c.up) c.ph ρ r cl:=⟨b6,fun x t h=>by rw[fC,cO.2.2]at h;simp[bs.new,c3]at h⟩;simp only[bY]at ak;obtain⟨yt,c9,d1⟩:=aj8 bC.sh eO aK jw l cl (fun v aG=>by rw[ak]at aG;exact(Dc _).mem_iff.1 (nl.1 aG).1) aew;refine⟨max (max hC iS) yt,some (sZ c.ph ρ r (ct c.up)),?_,⟨⟨dB,Rs.2 ?_⟩,kX⟩,Rq _ (by omega)⟩
   ·simp only[Au,a6 (max (max hC iS) yt) (by omega),kO,Bool.true_eq_false,if_false,C9,ch (max (max hC iS) yt) (by omega),d1 (max (max hC iS) yt) (by omega),nQ];rw[ak];rfl
   ·rw[bY,←ak];exact⟨aC,bk⟩
def hD(s:List ar):List (T×T):=s.map fun b=>(.var b.v,b.t)
theorem akf{s:List ar}{aN:Int→T}:jr (hD s) aN↔gL s aN:=by simp[jr,hD,gL,T.ap]
theorem Xn{s:List ar}{E:List (T×T)}{o:aY (List ar)}:iw [] (hD s++E) o↔iw s E o:=by
 have h:∀aN,(gL [] aN∧jr (hD s++E) aN)↔(gL s aN∧jr E aN):=fun aN=>by rw[Da,akf];exact⟨fun h=>h.2,fun h=>⟨fun b ad=>by simp at ad,h⟩⟩
 exact⟨AS h,AS fun aN=>(h aN).symm⟩
end Go.Pv
namespace Go.Pv
open Go
open Classical in
noncomputable def mgu(s:List ar)(E:List (T×T)):aY (List ar):=if h:∃o,iw s E o then h.choose else none
theorem rG{s:List ar}{E:List (T×T)}{o:aY (List ar)}(h:iw s E o):mgu s E=o:=by have ae:∃o,iw s E o:=⟨o,h⟩;unfold mgu;rw[dif_pos ae];exact Xo ae.choose_spec h
def j4(s:List ar):Prop:= ∀b∈s,(0≤b.v∧b.v≤100000)∧b.t.ok=true
theorem M7{aN:Int→T}{t:T}(aO:t.ok=true)(h:∀v,t.occ v=true→(aN v).ok=true):(t.ap aN).ok=true:=by
 induction t with
 |var n=>exact h n (by simp[T.occ])
 |pair a b dS dT=>simp only[T.ok,cC]at aO;simp only[T.ap,T.ok,cC];exact⟨dS aO.1 fun v aG=>h v (by simp[T.occ,aG]),dT aO.2 fun v aG=>h v (by simp[T.occ,aG])⟩
 |_=>exact aO
theorem wy{t:T}(aO:t.ok=true){v:Int}(h:t.occ v=true):0≤v∧v≤100000:=by
 induction t with
 |var n=>simp[T.occ]at h;subst h;simpa[T.ok]using aO
 |pair a b dS dT=>
  simp only[T.ok,cC]at aO;simp only[T.occ,mA]at h;rcases h with h|h
  ·exact dS aO.1 h
  ·exact dT aO.2 h
 |_=>simp[T.occ]at h
theorem Gw{s:List ar}(ag:j4 s){t:T}(aO:t.ok=true):(t.ap (bR s)).ok=true:=M7 aO fun v aG=>by
 unfold bR;cases e:df s v with
 |none=>have:=wy aO aG;simpa[T.ok]using this
 |some x=>exact(ag _ (jI e)).2
theorem AX{s:List ar}(ag:j4 s){v:Int}{t:T}(aG:0≤v∧v≤100000)(aO:t.ok=true){ai:List ar}(h:nr s v t=some ai):j4 ai:=by
 unfold nr at h;split at h
 ·cases h;intro b ad;rcases pS.1 ad with rfl|⟨c,au,rfl⟩
  ·exact⟨aG,Gw ag aO⟩
  ·refine⟨(ag c au).1,M7 (ag c au).2 fun w hw=>?_⟩;unfold one;split
   ·exact Gw ag aO
   ·have:=wy (ag c au).2 hw;simpa[T.ok]using this
 ·cases h
theorem WM{s:List ar}(ag:j4 s){t:T}(aO:t.ok=true):(hc s t).ok=true:=by
 cases t with
 |var n=>have:=Gw ag aO;simpa[hc,T.ap]using this
 |_=>exact aO
theorem Mf:∀(n:Nat) (s:List ar) (a b:T) (ai:List ar),j4 s→a.ok=true→b.ok=true→ku n s a b=some (some ai)→j4 ai
 |0,_,_,_,_,_,_,_,h=>by simp[ku]at h
 |n+1,s,a,b,ai,ag,bt,ad,h=>by
  have ae:=WM ag bt;have aL:=WM ag ad;simp only[ku]at h;generalize hc s a=x at h ae;generalize hc s b=y at h aL;have vA:∀{i:Int},(T.var i).ok=true→0≤i∧i≤100000:=fun h=>wy h (by simp[T.occ]);cases x with
  |var i=>
   cases y with
   |var j=>
    simp only[jS,dG]at h;split at h
    ·exact AX ag (vA aL) ae h
    ·split at h
     ·cases h;exact ag
     ·exact AX ag (vA ae) aL h
   |_=>simp only[jS,dG]at h;exact AX ag (vA ae) aL h
  |pair bC a2=>
   cases y with
   |var j=>simp only[jS,dG]at h;exact AX ag (vA aL) ae h
   |pair ch b6=>
    simp only[T.ok,cC]at ae aL;simp only[jS]at h;split at h
    ·cases h
    ·cases h
    ·rename_i s1 ak;exact Mf n s1 a2 b6 ai (Mf n s bC ch s1 ag ae.1 aL.1 ak) ae.2 aL.2 h
   |_=>simp[jS]at h
  |_=>
   cases y with
   |var j=>simp only[jS,dG]at h;exact AX ag (vA aL) ae h
   |_=>
    simp only[jS,dG]at h;split at h
    ·cases h;exact ag
    ·cases h
def ni:T→List Int
 | .var n=>[n]
 | .pair a b=>ni a++ni b
 |_=>[]
theorem xM{t:T}{v:Int}(h:t.occ v=true):v∈ni t:=by
 induction t with
 |var n=>simp[T.occ]at h;subst h;simp[ni]
 |pair a b dS dT=>simp only[T.occ,mA]at h;simp only[ni,ky];exact h.imp dS dT
 |_=>simp[T.occ]at h
theorem GL{s:List ar}(ag:fB s)(aJ:gi s)(a b:T):∃n o,ku n s a b=some o∧iw s [(a,b)] o:=by obtain⟨n,o,J,U⟩:=Wh (s.flatMap (fun b=>b.v::ni b.t)++ni a++ni b) _ _ s a b ag aJ (fun c au=>⟨by simp only[ky,List.mem_flatMap];exact .inl (.inl ⟨c,au,by simp⟩),fun w hw=>by simp only[ky,List.mem_flatMap];exact .inl (.inl ⟨c,au,by simp[xM hw]⟩)⟩) (fun w hw=>by simp[xM hw]) (fun w hw=>by simp[xM hw]) rfl rfl;exact⟨n,o,J,U.1⟩
theorem MW{s:List ar}{e:T×T}{E:List (T×T)}{s1:List ar}(h:iw s [e] (some s1)){o:aY (List ar)}(U:iw s1 E o):iw s (e::E) o:=MV (E:=[e]) h U
theorem FD{s:List ar}(ag:fB s)(aJ:gi s)(E:List (T×T)):iw s E (mgu s E):=by
 induction E generalizing s with
 |nil=>rw[rG (He ag aJ)];exact He ag aJ
 |cons e E bU=>
  obtain⟨n,o,_,U⟩:=GL ag aJ e.1 e.2;cases o with
  |none=>have ao:iw s (e::E) none:=Hd E U;rw[rG ao];exact ao
  |some s1=>have ao:=MW U (bU U.1.1 U.1.2);rw[rG ao];exact ao
theorem Kt{s:List ar}(ag:fB s)(aJ:gi s):mgu s []=some s:=rG (He ag aJ)
theorem Ks{s:List ar}(ag:fB s)(aJ:gi s)(e:T×T)(E:List (T×T)):mgu s (e::E)=match mgu s [e]with|some s1=>mgu s1 E|none=>none:=by
 have J:=FD ag aJ [e];cases h:mgu s [e]with
 |none=>rw[h]at J;have ao:iw s (e::E) none:=Hd E J;exact rG ao
 |some s1=>rw[h]at J;exact rG (MW J (FD J.1.1 J.1.2 E))
theorem zH{s:List ar}(ag:fB s)(aJ:gi s){E:List (T×T)}{ai:List ar}(h:mgu s E=some ai):fB ai∧gi ai:=by have J:=FD ag aJ E;rw[h]at J;exact J.1
theorem afU{s:List ar}(ag:fB s)(aJ:gi s)(ax:j4 s){E:List (T×T)}(dv:∀e∈E,e.1.ok=true∧e.2.ok=true){ai:List ar}(h:mgu s E=some ai):j4 ai:=by
 induction E generalizing s with
 |nil=>rw[Kt ag aJ]at h;cases h;exact ax
 |cons e E bU=>
  rw[Ks ag aJ]at h;split at h
  ·rename_i s1 J;obtain⟨n,o,U,ao⟩:=GL ag aJ e.1 e.2;have ba:=rG ao;rw[J]at ba;subst ba;exact bU ao.1.1 ao.1.2 (Mf n s e.1 e.2 s1 ax (dv e (by simp)).1 (dv e (by simp)).2 U) (fun fG he=>dv fG (by simp[he])) h
  ·cases h
theorem SK{l:List Int}(aA:l.Nodup)(h:∀v∈l,0≤v∧v≤100000):l.length≤100001:=by
 have J:(l.map Int.toNat).Nodup:=by rw[List.nodup_iff_pairwise_ne,List.pairwise_map];exact amq (fun{a b} bt ad cF e=>cF (by have:=h a bt;have:=h b ad;omega)) aA
 have:=MK J (l₂:=List.range 100001) (fun x ae=>by obtain⟨v,aG,rfl⟩:=iP.1 ae;have:=h v aG;simp;omega)
 simpa using this
end Go.Pv
