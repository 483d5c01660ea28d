/- The most general unifier within the limits. -/
import Derived.Deep.LoopGhost
import Derived.Test.YtahlgcidhnjlbaaGreatZ1
set_option linter.all false
set_option maxHeartbeats 4000000
open Array renaming getElem?_toList→sG
open Bool renaming and_eq_true→cA,false_eq_true→gI,or_eq_true→mf
open Decidable renaming not_not→apu
open Go renaming Program→cy,TypeId→fT
open Go.IntKind renaming bits→nv,signed→rz,u64→gW,wrap→rA
open Go.IntWalk renaming i64_in→oc
open Go.Op renaming bytesLess→hf
open Go.Region renaming wanted→od
open Go.Result renaming andThen_ok→fD
open Go.Sem renaming run_bind→fv,run_pure→gj
open Go.Value renaming cells→oU
open List renaming all_eq_true→ja,cons_append→bN,drop_eq_getElem_cons→kQ,getElem?_eq_getElem→ca,getElem?_eq_none→pJ,getElem?_eq_some_iff→fH,length_append→oV,length_cons→pK,map_cons→gX,mem_append→ki,mem_cons→fU,mem_cons_of_mem→oW,mem_filter→mT,mem_map→iC,nil_append→bT,pairwise_cons→mg,pairwise_iff_getElem→oX
open List.Nodup renaming length_le_of_subset→LM
open List.Pairwise renaming imp_of_mem→akN,nil→apB
open List.Perm renaming eq_of_pairwise→LN
open List.cons renaming injEq→pI
open Nat renaming le_refl→eQ,le_trans→jT
open Ne renaming symm→ky
open Option renaming bind_some→kA,getD_none→mU,getD_some→kR,isSome_iff_exists→fE,isSome_none→lK,map_eq_some_iff→gA,map_some→ny
open Option.some renaming inj→fw,injEq→dz
open Prod.mk renaming injEq→jb
open _root_ renaming False→eI,Option→aW,UInt8→dA,beq_iff_eq→dG,congrArg→e1,decide_eq_false→oe,decide_eq_false_iff_not→hx,decide_eq_true_eq→fx
namespace Go.Pv
open Go Go.RowKit
def aeZ(A:dc)(s ai:cF)(rm:aW aD):Prop:=(∀k,(look k ai.b).isSome→(look k s.b).isSome∨rm=some k)∧(∀k,(look k ai.e).isSome→(look k s.e).isSome∨rm=some k)∧(∀k,(look k s.b).isSome→(look k ai.b).isSome)∧(∀k,(look k s.e).isSome→(look k ai.e).isSome)∧
 (∀k,rm=some k→(∃j,k= .obj j)∧A.F k∧A.b k=none∧A.e k=none∧((look k ai.b).isSome∨(look k ai.e).isSome))
def VU(P:cy)(n:Nat)(args:List ah)(A:dc)(d:aW Nat)(x:kj):Prop:=
 ∃s ai r rm,(∀k cs,look k s.b=some cs→A.b k=some cs∧aH (inObs s) cs)∧(∀k o,look k s.e=some o→A.e k=some o∧dN (inObs s) o)∧ix s∧ix ai∧aeZ A s ai rm∧aH (inObs s) args∧
  bJ P n args s (fun ev dD=>ev=r∧dD=ai)∧x=⟨d,r,ai.b,ai.e,rm⟩
def VV(P:cy)(n0 n:Nat)(args:List ah)(A:dc)(d:aW Nat)(x:kj):Prop:=
 ∃cD r,d=some cD∧(A.F (.loc (n0+cD))∧A.b (.loc (n0+cD))=none∧A.e (.loc (n0+cD))=none)∧aH (fun _=>eI) args∧
  Gh P n (n0+cD) args ⟨[],[]⟩ (fun ev dD=>ev=r∧dD=⟨[],[]⟩)∧x=⟨d,r,[],[],some (.loc (n0+cD))⟩
def w3:ah→Bool
 | .ptr (.loc _) _=>true
 | .eptr _=>true
 |_=>false
def fI.isB:fI→Bool
 | .loadB _ _ _=>true
 | .mgetB _ _ _ _ _=>true
 |_=>false
def fI.ptrOf(t:Nat→ah):fI→ah
 | .load _ _ x=>dr t x
 | .loadB _ _ x=>dr t x
 |_=>.junk
def ed(P:cy)(q:Bool)(n0:Nat):dT→dc→kj→Prop
 | .s (.v d i),A,x=> ∃c p,oT A.t A.b A.e i=some (c,p)∧c∧(i.isLoad=true→i.isB=true∨q=true∨w3 (i.ptrOf A.t)=true)∧x=⟨some d,p,[],[],none⟩
 | .s (.box d none v),A,x=>(A.F (.loc (n0+d))∧A.b (.loc (n0+d))=none∧A.e (.loc (n0+d))=none)∧dS (dr A.t v)=true∧x=⟨some d,.ptr (.loc (n0+d)) 0,[(.loc (n0+d),cells (dr A.t v))],[],some (.loc (n0+d))⟩
 | .s (.alloc d none z),A,x=>(A.F (.loc (n0+d))∧A.b (.loc (n0+d))=none∧A.e (.loc (n0+d))=none)∧x=⟨some d,.ptr (.loc (n0+d)) 0,[(.loc (n0+d),cells z)],[],some (.loc (n0+d))⟩
 | .s (.store sz u v),A,x=> ∃k off cs,dr A.t u= .ptr k off∧A.b k=some cs∧(hF cs=true∧dS (dr A.t v)=true∧(cells (dr A.t v)).length=sz∧off+sz≤cs.length)∧x=⟨none,.junk,[(k,nn cs off (cells (dr A.t v)))],[],none⟩
 | .s (.bsl d sz el xs),A,x=>(A.F (.loc (n0+d))∧A.b (.loc (n0+d))=none∧A.e (.loc (n0+d))=none)∧rI sz (xs.map (dr A.t))∧x=⟨some d,.slice sz (.own (.loc (n0+d))) (xs.map (dr A.t)),[],[(.loc (n0+d),⟨xs.length,el,sz,none⟩)],some (.loc (n0+d))⟩
 | .s (.app d sz el u v),A,x=> ∃tag xs ks ys,dr A.t u= .slice sz tag xs∧dr A.t v= .slice sz ks ys∧
   ((∃k o,tag= .own k∧A.e k=some o∧(o.xs=none∧o.n=xs.length∧o.el=el∧o.sz=sz∧xs.length+ys.length≤lim)∧x=⟨some d,.slice sz (.own k) (xs++ys),[],[(k,⟨xs.length+ys.length,el,sz,none⟩)],none⟩)∨
    (tag= .nil∧ys.length≤lim∧(A.F (.loc (n0+d))∧A.b (.loc (n0+d))=none∧A.e (.loc (n0+d))=none)∧x=⟨some d,.slice sz (.own (.loc (n0+d))) ys,[],[(.loc (n0+d),⟨ys.length,el,sz,none⟩)],some (.loc (n0+d))⟩))
 | .s (.appm d _ sz el u v),A,x=> ∃k n xs ks ys,dr A.t u= .row sz k n∧dr A.t v= .slice sz ks ys∧A.e k=some ⟨n,el,sz,some xs⟩∧xs.length+ys.length≤lim∧x=⟨some d,.row sz k (xs.length+ys.length),[],[(k,⟨xs.length+ys.length,el,sz,some (xs++ys)⟩)],none⟩
 | .s (.storeE sz u v),A,x=> ∃k n i f el dy xs q,dr A.t u= .rptr dy k n i f∧A.e k=some ⟨n,el,dy,some xs⟩∧xs[i]? =some q∧(dS q=true∧dS (dr A.t v)=true∧(cells (dr A.t v)).length=sz∧f+sz≤(cells q).length∧0<sz)∧x=⟨none,.junk,[],[(k,⟨n,el,dy,some (xs.set i (l9 q f (cells (dr A.t v))))⟩)],none⟩
 | .s (.mkmap d (some m)),A,x=>(A.F (.obj m)∧A.b (.obj m)=none∧A.e (.obj m)=none)∧x=⟨some d,.gmap (.obj m),[(.obj m,[.hdm 0 []])],[],some (.obj m)⟩
 | .s (.mput b7 u k v),A,x=> ∃m cs cs',dr A.t u= .gmap m∧A.b m=some cs∧nX b7 (dr A.t k) (dr A.t v) cs=some cs'∧x=⟨none,.junk,[(m,cs')],[],none⟩
 | .call d f xs,A,x=> ∃n dh,dr A.t f= .func n dh∧((VU P n (cU (xs.map (dr A.t)++dh)) A d x∧(q=true→x.bw=[]∧x.ew=[]))∨VV P n0 n (cU (xs.map (dr A.t)++dh)) A d x)
 |_,_,_=>eI
inductive Ab where
 |v|l|n|s|w|a|c|m|r|k
 deriving DecidableEq
def dT.mode:dT→Ab
 | .s (.v _ (.loadB _ _ _))=>.m
 | .s (.v _ (.mgetB _ _ _ _ _))=>.m
 | .s (.v _ i)=>if i.isLoad then .l else .v
 | .s (.storeE _ _ _)=>.r
 | .s (.box _ _ _)=>.n
 | .s (.alloc _ _ _)=>.n
 | .s (.store _ _ _)=>.w
 | .s (.bsl _ _ _ _)=>.s
 | .s (.app _ _ _ _ _)=>.a
 | .s (.bslm _ _ _ _ _)=>.w
 | .s (.mks _ _ _ _ _ _)=>.w
 | .s (.appm _ _ _ _ _ _)=>.r
 | .s (.mkmap _ _)=>.k
 | .s (.mput _ _ _ _)=>.w
 | .s (.range _ _ _)=>.w
 | .call _ _ _=>.c
 | .next _ _=>.w
structure Gs (q:Bool) (n0:Nat) (m:Ab) (dst:aW Nat) (A:dc) (x:kj):Prop where
 d:x.d=dst
 b:∀k,(look k x.bw).isSome→(m= .n∧∃d,dst=some d∧k= .loc (n0+d)∧A.b k=none∧A.e k=none)∨m= .w∨(m= .c∧(∃j,k= .obj j)∧q=false)∨(m= .k∧(∃j,k= .obj j)∧A.b k=none∧A.e k=none)
 e:∀k,(look k x.ew).isSome→(m= .s∧∃d,dst=some d∧k= .loc (n0+d)∧A.b k=none∧A.e k=none)∨(m= .a∧(A.e k≠none∨ ∃d,dst=some d∧k= .loc (n0+d)∧A.b k=none∧A.e k=none))∨(m= .c∧(∃j,k= .obj j)∧q=false)∨(m= .r∧∃o,A.e k=some o∧o.xs≠none)
 r:∀k,x.rm=some k→(∃d,dst=some d∧k= .loc (n0+d))∨((m= .c∨m= .k)∧(∃j,k= .obj j)∧((look k x.bw).isSome∨(look k x.ew).isSome))
 ex:m= .a→∀k o,(look k x.ew).isSome→A.e k=some o→o.xs=none
 xn:m= .a∨m= .s→∀k o,look k x.ew=some o→o.xs=none
theorem sf{α:Type}{k bH:aD}{x:α}(h:(look k [(bH,x)]).isSome):k=bH:=by
 simp only[look]at h;split at h
 ·rename_i e;exact e.symm
 ·cases h
theorem Jp{k bH:aD}{n el sz:Nat}{o:fF}(h:look k [(bH,(⟨n,el,sz,none⟩:fF))]=some o):o.xs=none:=by
 simp only[look]at h;split at h
 ·cases h;rfl
 ·cases h
theorem U1{P:cy}{q:Bool}{n0:Nat}{i:dT}{A:dc}{x:kj}(h:ed P q n0 i A x):Gs q n0 i.mode i.dst A x:=by
 cases i with
 |s i=>
  cases i with
  |v d i=>simp only[ed]at h;obtain⟨c,p,_,_,_,rfl⟩:=h;exact⟨rfl,fun k ab=>by simp[look]at ab,fun k ab=>by simp[look]at ab,fun k ab=>by simp at ab,fun _ k o ab=>by simp[look]at ab,fun _ k o ab=>by simp[look]at ab⟩
  |box d key v=>
   cases key with
   |some m=>simp only[ed]at h
   |none=>simp only[ed]at h;obtain⟨⟨_,U,al⟩,_,rfl⟩:=h;exact⟨rfl,fun k ab=>by obtain rfl:=sf ab;exact .inl ⟨rfl,d,rfl,rfl,U,al⟩,fun k ab=>by simp[look]at ab,fun k ab=>by simp at ab;exact .inl ⟨d,rfl,ab.symm⟩,fun _ k o ab=>by simp[look]at ab,fun _ k o ab=>by simp[look]at ab⟩
  |alloc d key z=>
   cases key with
   |some m=>simp only[ed]at h
   |none=>simp only[ed]at h;obtain⟨⟨_,U,al⟩,rfl⟩:=h;exact⟨rfl,fun k ab=>by obtain rfl:=sf ab;exact .inl ⟨rfl,d,rfl,rfl,U,al⟩,fun k ab=>by simp[look]at ab,fun k ab=>by simp at ab;exact .inl ⟨d,rfl,ab.symm⟩,fun _ k o ab=>by simp[look]at ab,fun _ k o ab=>by simp[look]at ab⟩
  |store sz u v=>simp only[ed]at h;obtain⟨k,off,cs,_,_,_,rfl⟩:=h;exact⟨rfl,fun k ab=>.inr (.inl rfl),fun k ab=>by simp[look]at ab,fun k ab=>by simp at ab,fun _ k o ab=>by simp[look]at ab,fun _ k o ab=>by simp[look]at ab⟩
  |bsl d sz el xs=>simp only[ed]at h;obtain⟨⟨_,U,al⟩,_,rfl⟩:=h;exact⟨rfl,fun k ab=>by simp[look]at ab,fun k ab=>by obtain rfl:=sf ab;exact .inl ⟨rfl,d,rfl,rfl,U,al⟩,fun k ab=>by simp at ab;exact .inl ⟨d,rfl,ab.symm⟩,fun e=>by simp[dT.mode]at e,fun _ k o ab=>Jp ab⟩
  |app d sz el u v=>
   simp only[ed]at h;obtain⟨tag,xs,ks,ys,_,_,h⟩:=h;rcases h with⟨k,o,_,J,⟨hV,_⟩,rfl⟩|⟨_,_,⟨_,U,al⟩,rfl⟩
   ·exact⟨rfl,fun k ab=>by simp[look]at ab,fun k ab=>by obtain rfl:=sf ab;exact .inr (.inl ⟨rfl,.inl (by rw[J];simp)⟩),fun k ab=>by simp at ab,fun _ bH o' ab av=>by obtain rfl:=sf ab;rw[J]at av;cases av;exact hV,fun _ k o ab=>Jp ab⟩
   ·exact⟨rfl,fun k ab=>by simp[look]at ab,fun k ab=>by obtain rfl:=sf ab;exact .inr (.inl ⟨rfl,.inr ⟨d,rfl,rfl,U,al⟩⟩),fun k ab=>by simp at ab;exact .inl ⟨d,rfl,ab.symm⟩,fun _ bH o' ab av=>(by obtain rfl:=sf ab;rw[al]at av;cases av),fun _ k o ab=>Jp ab⟩
  |bslm d key sz el xs=>simp only[ed]at h
  |mks d key sz el z x=>simp only[ed]at h
  |appm d key sz el u v=>simp only[ed]at h;obtain⟨k,n,xs,ks,ys,_,_,J,_,rfl⟩:=h;exact⟨rfl,fun k ab=>by simp[look]at ab,fun k ab=>by obtain rfl:=sf ab;exact .inr (.inr (.inr ⟨rfl,_,J,by simp⟩)),fun k ab=>by simp at ab,fun e=>by simp[dT.mode]at e,fun e=>by simp[dT.mode]at e⟩
  |storeE sz u v=>simp only[ed]at h;obtain⟨k,n,i,f,el,dy,xs,q,_,J,_,_,rfl⟩:=h;exact⟨rfl,fun k ab=>by simp[look]at ab,fun k ab=>by obtain rfl:=sf ab;exact .inr (.inr (.inr ⟨rfl,_,J,by simp⟩)),fun k ab=>by simp at ab,fun e=>by simp[dT.mode]at e,fun e=>by simp[dT.mode]at e⟩
  |mkmap d key=>
   cases key with
   |none=>simp only[ed]at h
   |some m=>simp only[ed]at h;obtain⟨⟨_,U,al⟩,rfl⟩:=h;exact⟨rfl,fun k ab=>by obtain rfl:=sf ab;exact .inr (.inr (.inr ⟨rfl,⟨m,rfl⟩,U,al⟩)),fun k ab=>by simp[look]at ab,fun k ab=>by simp at ab;subst ab;exact .inr ⟨.inr rfl,⟨m,rfl⟩,.inl (by simp[look])⟩,fun e=>by simp[dT.mode]at e,fun e=>by simp[dT.mode]at e⟩
  |mput b7 x k v=>simp only[ed]at h;obtain⟨m,cs,cs',_,_,_,rfl⟩:=h;exact⟨rfl,fun k ab=>.inr (.inl rfl),fun k ab=>by simp[look]at ab,fun k ab=>by simp at ab,fun e=>by simp[dT.mode]at e,fun e=>by simp[dT.mode]at e⟩
  |range d key x=>simp only[ed]at h
 |next d x=>simp only[ed]at h
 |call d f xs=>
  simp only[ed]at h;obtain⟨n,dh,_,h⟩:=h;rcases h with⟨⟨s,ai,r,rm,_,_,_,av,QJ,_,_,rfl⟩,bp⟩|⟨cD,r,rfl,_,_,_,rfl⟩;rotate_left
  ·exact⟨rfl,fun k ab=>by simp[look]at ab,fun k ab=>by simp[look]at ab,fun k ab=>by simp at ab;exact .inl ⟨cD,rfl,ab.symm⟩,fun _ k o ab=>by simp[look]at ab,fun _ k o ab=>by simp[look]at ab⟩
  refine⟨rfl,fun k ab=>.inr (.inr (.inl ⟨rfl,?_,?_⟩)),fun k ab=>.inr (.inr (.inl ⟨rfl,?_,?_⟩)),fun k ab=>.inr ⟨.inl rfl,(QJ.2.2.2.2 k ab).1,(QJ.2.2.2.2 k ab).2.2.2.2⟩,fun e=>by simp[dT.mode]at e,fun e=>by simp[dT.mode]at e⟩
  ·cases k with
   |loc m=>rw[av.1 m]at ab;cases ab
   |obj m=>exact⟨m,rfl⟩
  ·cases q with
   |false=>rfl
   |true=>rw[(bp rfl).1]at ab;simp[look]at ab
  ·cases k with
   |loc m=>rw[av.2 m]at ab;cases ab
   |obj m=>exact⟨m,rfl⟩
  ·cases q with
   |false=>rfl
   |true=>rw[(bp rfl).2]at ab;simp[look]at ab
theorem LQ{P:cy}{q:Bool}{n0:Nat}{i:dT}{A fV:dc}{x:kj}(h:ed P q n0 i A x)(aO:pR i.looks A.t fV.t)
  (au:i.mode= .l→∀k,(q=true∨ ∃m,k= .loc m)→A.b k≠none→fV.b k=A.b k) (Qz:i.mode= .m→∀k,A.b k≠none→fV.b k=A.b k)
  (kG:i.mode= .l→q=true→∀k o,A.e k=some o→o.xs≠none→fV.e k=some o)
  (aA:∀d,i.dst=some d→(i.mode= .n∨i.mode= .s∨i.mode= .a∨i.mode= .c)→(A.F (.loc (n0+d))∧A.b (.loc (n0+d))=none∧A.e (.loc (n0+d))=none)→(fV.F (.loc (n0+d))∧fV.b (.loc (n0+d))=none∧fV.e (.loc (n0+d))=none))
  (bD:i.mode= .a→∀k o,A.e k=some o→fV.e k=some o) (hw:i.mode= .w→∀k,fV.b k=A.b k) (adh:i.mode= .k→∀m,(A.F (.obj m)∧A.b (.obj m)=none∧A.e (.obj m)=none)→(fV.F (.obj m)∧fV.b (.obj m)=none∧fV.e (.obj m)=none)) (Bp:i.mode= .r→∀k o,A.e k=some o→o.xs≠none→fV.e k=some o)
  (aw:i.mode= .c→∀m,fV.b (.obj m)=A.b (.obj m)∧fV.e (.obj m)=A.e (.obj m)∧(A.F (.obj m)→fV.F (.obj m))):ed P q n0 i fV x:=by
 cases i with
 |s i=>
  cases i with
  |v d i=>
   simp only[ed]at h⊢;obtain⟨c,p,J,U,al,a6⟩:=h;by_cases km:∃agg sz y,i= .loadB agg sz y
   ·obtain⟨agg,sz,y,rfl⟩:=km;simp only[dT.looks,ea.looks,fI.looks]at aO;have tf:=gf aO;refine⟨c,p,?_,U,fun _=>.inl rfl,a6⟩;rw[←J];simp only[oT,←tf];have hm:=Qz (by simp[dT.mode]);simp only[oT]at J;cases bF:dr A.t y<;>simp only[q4];rename_i key off;rw[bF]at J;simp only[q4]at J;cases ae:A.b key with
    |none=>simp[ae]at J
    |some cs=>have:fV.b key=A.b key:=hm key (by rw[ae];simp);rw[this,ae]
   by_cases DO:∃b7 zero ok y z,i= .mgetB b7 zero ok y z
   ·obtain⟨b7,zero,ok,y,z,rfl⟩:=DO;simp only[dT.looks,ea.looks,fI.looks]at aO;obtain⟨t1,t2⟩:=jV aO;refine⟨c,p,?_,U,fun _=>.inl rfl,a6⟩;simp only[oT]at J⊢;rw[←gf t1,←gf t2];exact Sv (Qz (by simp[dT.mode])) J
   replace al:i.isLoad=true→q=true∨w3 (i.ptrOf A.t)=true:=fun ng=>(al ng).resolve_left (fun ae=>by cases i<;>simp[fI.isB]at ae;exact km ⟨_,_,_,rfl⟩;exact DO ⟨_,_,_,_,_,rfl⟩);have acx:i.isLoad=true→(dT.s (.v d i)).mode= .l:=by intro ng;cases i<;>simp only[fI.isLoad]at ng<;>first|(cases ng;done)|(simp[dT.mode,fI.isLoad];done)|exact absurd ⟨_,_,_,rfl⟩ km|exact absurd ⟨_,_,_,_,_,rfl⟩ DO
   by_cases ng:i.isLoad=true
   ·have bp:∀(bF:w3 (i.ptrOf A.t)=false),∀k,A.b k≠none→fV.b k=A.b k:=fun bF k ab=>au (acx ng) k (.inl ((al ng).resolve_right (by rw[bF];simp))) ab;cases i<;>simp only[fI.isLoad]at ng<;>try(cases ng;done)
    case mget b7 zero ok y z=>simp only[dT.looks,ea.looks,fI.looks]at aO;obtain⟨t1,t2⟩:=jV aO;refine⟨c,p,?_,U,fun _=>.inr (al rfl),a6⟩;simp only[oT]at J⊢;rw[←gf t1,←gf t2];exact Sv (bp rfl) J
    case ment y=>simp only[dT.looks,ea.looks,fI.looks]at aO;refine⟨c,p,?_,U,fun _=>.inr (al rfl),a6⟩;simp only[oT]at J⊢;rw[←gf aO];exact aet (bp rfl) J
    case mlen y=>simp only[dT.looks,ea.looks,fI.looks]at aO;refine⟨c,p,?_,U,fun _=>.inr (al rfl),a6⟩;simp only[oT]at J⊢;rw[←gf aO];exact aeO (bp rfl) J
    case loadB agg sz y=>exact absurd ⟨_,_,_,rfl⟩ km
    case mgetB=>exact absurd ⟨_,_,_,_,_,rfl⟩ DO
    rename_i agg sz y;simp only[dT.looks,ea.looks,fI.looks]at aO;have tf:=gf aO;refine⟨c,p,?_,U,fun _=>.inr (by have:=al rfl;simpa only[fI.ptrOf,←tf]using this),a6⟩;rw[←J];simp only[oT,←tf];have hm:=au (by simp[dT.mode,fI.isLoad]);simp only[oT]at J;have rS:=al rfl;simp only[fI.ptrOf]at rS;cases bF:dr A.t y<;>simp only[q4]
    ·rename_i key off;rw[bF]at J rS;simp only[q4]at J;cases ae:A.b key with
     |none=>simp[ae]at J
     |some cs=>have:fV.b key=A.b key:=hm key (by rcases rS with h|h;exact .inl h;cases key;exact .inr ⟨_,rfl⟩;simp[w3]at h) (by rw[ae];simp);rw[this,ae]
    ·rename_i dy key n i f;rw[bF]at J rS;simp only[q4]at J;have acP:q=true:=rS.resolve_right (by simp[w3]);unfold xB at J;split at J
     ·rename_i n' el iO xs he;rw[he,kG (by simp[dT.mode,fI.isLoad]) acP key _ he (by simp)]
     ·cases J
   ·have ng:i.isLoad=false:=by simpa using ng
    refine⟨c,p,?_,U,(fun e=>by rw[ng]at e;cases e),a6⟩;rw[←J];exact(ajl (by simpa only[dT.looks,ea.looks]using aO) ng).symm
  |box d key v=>
   cases key with
   |some m=>simp only[ed]at h
   |none=>simp only[ed,dT.looks,ea.looks]at h aO⊢;obtain⟨J,U,al⟩:=h;rw[←gf aO];exact⟨aA d rfl (.inl rfl) J,U,al⟩
  |alloc d key z=>
   cases key with
   |some m=>simp only[ed]at h
   |none=>simp only[ed]at h⊢;exact⟨aA d rfl (.inl rfl) h.1,h.2⟩
  |store sz u v=>simp only[ed,dT.looks,ea.looks]at h aO⊢;obtain⟨J,U⟩:=jV aO;rw[←gf J,←gf U];obtain⟨k,off,cs,g1,g2,g3,g4⟩:=h;exact⟨k,off,cs,g1,by rw[hw rfl];exact g2,g3,g4⟩
  |bsl d sz el xs=>simp only[ed,dT.looks,ea.looks]at h aO⊢;rw[←EO aO];exact⟨aA d rfl (.inr (.inl rfl)) h.1,h.2⟩
  |app d sz el u v=>
   simp only[ed,dT.looks,ea.looks]at h aO⊢;obtain⟨J,U⟩:=jV aO;rw[←gf J,←gf U];obtain⟨tag,xs,ks,ys,g1,g2,h⟩:=h;refine⟨tag,xs,ks,ys,g1,g2,?_⟩;rcases h with⟨k,o,aj,aC,bg⟩|⟨aj,aC,bg,da⟩
   ·exact .inl ⟨k,o,aj,bD rfl k o aC,bg⟩
   ·exact .inr ⟨aj,aC,aA d rfl (.inr (.inr (.inl rfl))) bg,da⟩
  |bslm d key sz el xs=>simp only[ed]at h
  |mks d key sz el z x=>simp only[ed]at h
  |appm d key sz el u v=>simp only[ed,dT.looks,ea.looks]at h aO⊢;obtain⟨J,U⟩:=jV aO;rw[←gf J,←gf U];obtain⟨k,n,xs,ks,ys,g1,g2,g3,g4,g5⟩:=h;exact⟨k,n,xs,ks,ys,g1,g2,Bp rfl k _ g3 (by simp),g4,g5⟩
  |storeE sz u v=>simp only[ed,dT.looks,ea.looks]at h aO⊢;obtain⟨J,U⟩:=jV aO;rw[←gf J,←gf U];obtain⟨k,n,i,f,el,dy,xs,q,g1,g2,g3⟩:=h;exact⟨k,n,i,f,el,dy,xs,q,g1,Bp rfl k _ g2 (by simp),g3⟩
  |mkmap d key=>
   cases key with
   |none=>simp only[ed]at h
   |some m=>simp only[ed]at h⊢;exact⟨adh rfl m h.1,h.2⟩
  |mput b7 u k v=>simp only[ed,dT.looks,ea.looks]at h aO⊢;obtain⟨t1,t3⟩:=jV aO;obtain⟨t1,t2⟩:=jV t1;obtain⟨m,cs,cs',g1,g2,g3,g4⟩:=h;rw[←gf t1,←gf t2,←gf t3];exact⟨m,cs,cs',g1,by rw[hw rfl];exact g2,g3,g4⟩
  |range d key x=>simp only[ed]at h
 |next d x=>simp only[ed]at h
 |call d f xs=>
  simp only[ed,dT.looks]at h aO⊢;obtain⟨J,U⟩:=jV aO;rw[←gf J,←EO U];obtain⟨n,dh,g1,h⟩:=h;rcases h with⟨⟨s,ai,r,rm,bE,cc,c8,h4,lq,ox⟩,g3⟩|⟨cD,r,rfl,bE,cc⟩;rotate_left
  ·exact⟨n,dh,g1,.inr ⟨cD,r,rfl,aA cD rfl (.inr (.inr (.inr rfl))) bE,cc⟩⟩
  refine⟨n,dh,g1,.inl ⟨⟨s,ai,r,rm,fun k cs ab=>?_,fun k o ab=>?_,c8,h4,⟨lq.1,lq.2.1,lq.2.2.1,lq.2.2.2.1,fun k ab=>?_⟩,ox⟩,g3⟩⟩
  ·cases k with
   |loc m=>rw[c8.1 m]at ab;cases ab
   |obj m=>rw[(aw rfl m).1];exact bE _ _ ab
  ·cases k with
   |loc m=>rw[c8.2 m]at ab;cases ab
   |obj m=>rw[(aw rfl m).2.1];exact cc _ _ ab
  ·obtain⟨⟨j,rfl⟩,d2,d3,d4,d5⟩:=lq.2.2.2.2 k ab;exact⟨⟨j,rfl⟩,(aw rfl j).2.2 d2,by rw[(aw rfl j).1];exact d3,by rw[(aw rfl j).2.1];exact d4,d5⟩
def kM(d:aW Nat):kj:=⟨d,.tuple [],[],[],none⟩
def kk(P:cy)(q:Bool)(n0:Nat)(g:cY)(A:dc)(x:kj):Prop:=
 match g.g with
 |none=>ed P q n0 g.i A x
 |some (s,w)=>match A.t s with
  | .bool b=>(b=w∧ed P q n0 g.i A x)∨(b= !w∧x=kM g.i.dst)
  | .tuple []=>x=kM g.i.dst
  |_=>eI
def eZ:Ab→Ab→Bool
 | .v,_=>true
 |_,.v=>true
 | .l,.l| .l,.n| .l,.s| .l,.a| .l,.c=>true
 | .n,.n| .n,.s| .n,.a| .n,.c=>true
 | .s,.l| .s,.n| .s,.s| .s,.c=>true
 | .a,.l| .a,.n| .a,.s=>true
 | .c,.l| .c,.n| .c,.s=>true
 | .l,.m| .m,.l| .m,.m| .m,.n| .m,.s| .m,.a| .s,.m| .a,.m=>true
 | .l,.k| .m,.k| .n,.k| .s,.k=>true
 | .m,.r| .r,.m| .r,.n| .r,.s| .n,.r| .s,.r| .r,.w| .w,.r=>true
 |_,_=>false
def yo(g h:cY):Bool:=(match g.i.dst with|some d=> !(h.looks.contains d)&&h.i.dst !=some d|none=>true)&&(match h.i.dst with|some d=> !(g.looks.contains d)|none=>true)&&eZ g.i.mode h.i.mode
theorem U2(q:Bool)(n0:Nat)(m:Ab)(d:aW Nat)(A:dc):Gs q n0 m d A (kM d):=⟨rfl,fun k ab=>by simp[kM,look]at ab,fun k ab=>by simp[kM,look]at ab,fun k ab=>by simp[kM]at ab,fun _ k o ab=>by simp[kM,look]at ab,fun _ k o ab=>by simp[kM,look]at ab⟩
theorem Lh{P:cy}{q:Bool}{n0:Nat}{g:cY}{A:dc}{x:kj}(h:kk P q n0 g A x):Gs q n0 g.i.mode g.i.dst A x:=by
 unfold kk at h;split at h
 ·exact U1 h
 ·split at h
  ·rcases h with⟨_,h⟩|⟨_,rfl⟩
   ·exact U1 h
   ·exact U2 _ _ _ _ _
  ·subst h;exact U2 _ _ _ _ _
  ·exact h.elim
theorem rN{A:dc}{x:kj}{k:aD}(h:look k x.bw=none):(A.do x).b k=A.b k:=by simp[dc.do,h5,h]
theorem rO{A:dc}{x:kj}{k:aD}(h:look k x.ew=none):(A.do x).e k=A.e k:=by simp[dc.do,h5,h]
theorem He{A:dc}{x:kj}{k:aD}(h:(A.do x).b k=none):A.b k=none:=by
 simp only[dc.do,h5]at h;split at h
 ·cases h
 ·exact h
theorem Hf{A:dc}{x:kj}{k:aD}(h:(A.do x).e k=none):A.e k=none:=by
 simp only[dc.do,h5]at h;split at h
 ·cases h
 ·exact h
theorem k9{α:Type}{o:aW α}(h:¬o.isSome):o=none:=by cases o<;>simp at h⊢
theorem LS{P:cy}{q:Bool}{n0:Nat}{g:cY}{A fV:dc}{x:kj}(h:kk P q n0 g A x)(aO:pR g.looks A.t fV.t)(hm:ed P q n0 g.i A x→ed P q n0 g.i fV x):kk P q n0 g fV x:=by
 unfold kk at h⊢;cases a1:g.g with
 |none=>simp only[a1]at h⊢;exact hm h
 |some xK=>
  obtain⟨s,w⟩:=xK;have:A.t s=fV.t s:=aO s (by simp[cY.looks,a1]);simp only[a1,this]at h⊢;split at h
  ·rcases h with⟨J,U⟩|h
   ·exact .inl ⟨J,hm U⟩
   ·exact .inr h
  ·exact h
  ·exact h
theorem swap{P:cy}{q:Bool}{n0:Nat}{g h:cY}(Qq:yo g h=true){A:dc}{x y:kj}(ad:kk P q n0 g A x)(aL:kk P q n0 h (A.do x) y):
  kk P q n0 h A y∧kk P q n0 g (A.do y) x∧x.apart y:=by
 simp only[yo,cA]at Qq;obtain⟨⟨fh,ez⟩,hm⟩:=Qq;have xO:=Lh ad;have cC:∀d b6,g.i.dst=some d→h.i.dst=some b6→d≠b6:=by intro d b6 aj aC e;simp only[aj,cA,bne_iff_ne]at fh;exact fh.2 (by rw[aC,e])
 have DQ:pR h.looks (A.do x).t A.t:=by intro i hi;simp only[dc.do];rw[if_neg];intro e;rw[xO.d]at e;simp only[e,cA,Bool.not_eq_true',List.contains_eq_mem,hx]at fh;exact fh.1 hi
 have p5:∀k,(look k x.bw).isSome→_:=xO.b;have hle:∀k,(look k x.ew).isSome→_:=xO.e;have RD:kk P q n0 h A y:=by
  refine LS aL DQ fun mv=>LQ mv (fun i hi=>DQ i (by simp[cY.looks,hi])) (fun e k ab ae=>?_) (fun e k ae=>?_) (fun e bp k o av hV=>?_) (fun d aP QG k0=>?_) (fun e k o av=>?_) (fun e k=>?_) (fun e m k0=>⟨k0.1.1,He k0.2.1,Hf k0.2.2⟩) (fun e k o av hV=>?_) (fun e m=>?_)
  ·rw[rN (k9 fun ag=>?_)];rcases p5 k ag with⟨aj,_⟩|aj|⟨aj,⟨j,aC⟩,bg⟩|⟨aj,_⟩;rotate_left 3
   ·rw[e,aj]at hm;simp[eZ]at hm
   ·rw[e,aj]at hm;simp[eZ]at hm
   ·rw[e,aj]at hm;simp[eZ]at hm
   ·rcases ab with ab|⟨m,ab⟩
    ·rw[ab]at bg;cases bg
    ·rw[ab]at aC;cases aC
  ·rw[rN (k9 fun ag=>?_)];rcases p5 k ag with⟨aj,_⟩|aj|⟨aj,_⟩|⟨aj,_⟩<;>(rw[e,aj]at hm;simp[eZ]at hm)
  ·rw[e]at hm;cases hL:look k x.ew with
   |none=>rw[rO hL]at av;exact av
   |some o'=>
    exfalso;have Iu:(A.do x).e k=some o':=by simp[dc.do,h5,hL]
    rw[Iu]at av;cases av;rcases hle k (by simp[hL])with⟨aj,_⟩|⟨aj,_⟩|⟨aj,_,bg⟩|⟨aj,_⟩
    ·exact hV (xO.xn (.inr aj) k _ hL)
    ·exact hV (xO.xn (.inl aj) k _ hL)
    ·rw[bp]at bg;cases bg
    ·rw[aj]at hm;simp[eZ]at hm
  ·exact⟨k0.1.1,He k0.2.1,Hf k0.2.2⟩
  ·rw[rO (k9 fun ag=>?_)]at av
   ·exact av
   ·rw[e]at hm;rcases hle k ag with⟨aj,_⟩|⟨aj,_⟩|⟨aj,_⟩|⟨aj,_⟩<;>(rw[aj]at hm;simp[eZ]at hm)
  ·rw[rN (k9 fun ag=>?_)];rw[e]at hm;rcases p5 k ag with⟨aj,_⟩|aj|⟨aj,_⟩|⟨aj,_⟩<;>(rw[aj]at hm;simp[eZ]at hm)
  ·rw[e]at hm;cases hL:look k x.ew with
   |none=>rw[rO hL]at av;exact av
   |some o'=>
    exfalso;have Iu:(A.do x).e k=some o':=by simp[dc.do,h5,hL]
    rw[Iu]at av;cases av;rcases hle k (by simp[hL])with⟨aj,_⟩|⟨aj,_⟩|⟨aj,_⟩|⟨aj,_⟩
    ·exact hV (xO.xn (.inr aj) k _ hL)
    ·rw[aj]at hm;simp[eZ]at hm
    ·rw[aj]at hm;simp[eZ]at hm
    ·rw[aj]at hm;simp[eZ]at hm
  ·rw[e]at hm;refine⟨?_,?_,fun gw=>gw.1⟩
   ·rw[rN (k9 fun ag=>?_)];rcases p5 _ ag with⟨aj,d,_,aC,_⟩|aj|⟨aj,_⟩|⟨aj,_⟩;rotate_left 3
    ·rw[aj]at hm;simp[eZ]at hm
    ·cases aC
    ·rw[aj]at hm;simp[eZ]at hm
    ·rw[aj]at hm;simp[eZ]at hm
   ·rw[rO (k9 fun ag=>?_)];rcases hle _ ag with⟨aj,d,_,aC,_⟩|⟨aj,_⟩|⟨aj,_⟩|⟨aj,_⟩
    ·cases aC
    ·rw[aj]at hm;simp[eZ]at hm
    ·rw[aj]at hm;simp[eZ]at hm
    ·rw[aj]at hm;simp[eZ]at hm
 have ty:=Lh RD;have P7:pR g.looks A.t (A.do y).t:=by intro i hi;simp only[dc.do];rw[if_neg];intro e;rw[ty.d]at e;simp only[e,Bool.not_eq_true',List.contains_eq_mem,hx]at ez;exact ez hi
 refine⟨RD,?_,?_⟩
 ·refine LS ad P7 fun mv=>LQ mv (fun i hi=>P7 i (by simp[cY.looks,hi])) (fun e k ab ae=>?_) (fun e k ae=>?_) (fun e bp k o av hV=>?_) (fun d aP QG k0=>?_) (fun e k o av=>?_) (fun e k=>?_) (fun e m k0=>?_) (fun e k o av hV=>?_) (fun e m=>?_)
  ·refine rN (k9 fun ag=>?_);rcases ty.b k ag with⟨aj,d,_,_,aC,_⟩|aj|⟨aj,⟨j,aC⟩,bg⟩|⟨_,_,aC,_⟩;rotate_left 3
   ·exact ae aC
   ·exact ae aC
   ·rw[e,aj]at hm;simp[eZ]at hm
   ·rcases ab with ab|⟨m,ab⟩
    ·rw[ab]at bg;cases bg
    ·rw[ab]at aC;cases aC
  ·refine rN (k9 fun ag=>?_);rcases ty.b k ag with⟨aj,d,_,_,aC,_⟩|aj|⟨aj,_⟩|⟨_,_,aC,_⟩;rotate_left 3
   ·exact ae aC
   ·exact ae aC
   ·rw[e,aj]at hm;simp[eZ]at hm
   ·rw[e,aj]at hm;simp[eZ]at hm
  ·rw[rO (k9 fun ag=>?_)]
   ·exact av
   ·rcases ty.e k ag with⟨aj,d,_,_,_,aC⟩|⟨aj,aC⟩|⟨aj,_,bg⟩|⟨aj,_⟩
    ·rw[aC]at av;cases av
    ·exact hV (ty.ex aj k o ag av)
    ·rw[bp]at bg;cases bg
    ·rw[e,aj]at hm;simp[eZ]at hm
  ·refine⟨⟨k0.1,fun pY=>?_⟩,?_,?_⟩
   ·rcases ty.r _ pY with⟨b6,aj,aC⟩|⟨_,⟨j,aC⟩,_⟩
    ·simp only[aD.loc.injEq]at aC;exact cC d b6 aP aj (by omega)
    ·cases aC
   ·rw[rN (k9 fun ag=>?_)]
    ·exact k0.2.1
    ·rcases ty.b _ ag with⟨aj,b6,aC,bg,_⟩|aj|⟨aj,⟨j,aC⟩,_⟩|⟨aj,⟨j,aC⟩,_⟩;rotate_left 3
     ·cases aC
     ·simp only[aD.loc.injEq]at bg;exact cC d b6 aP aC (by omega)
     ·rcases QG with aC|aC|aC|aC<;>(rw[aj,aC]at hm;simp[eZ]at hm)
     ·cases aC
   ·rw[rO (k9 fun ag=>?_)]
    ·exact k0.2.2
    ·rcases ty.e _ ag with⟨aj,b6,aC,bg,_⟩|⟨aj,aC⟩|⟨aj,⟨j,aC⟩,_⟩|⟨aj,o,aC,_⟩
     ·simp only[aD.loc.injEq]at bg;exact cC d b6 aP aC (by omega)
     ·rcases aC with aC|⟨b6,aC,bg,_⟩
      ·exact aC k0.2.2
      ·simp only[aD.loc.injEq]at bg;exact cC d b6 aP aC (by omega)
     ·cases aC
     ·rw[k0.2.2]at aC;cases aC
  ·rw[rO (k9 fun ag=>?_)]
   ·exact av
   ·rw[e]at hm;rcases ty.e k ag with⟨aj,d,_,_,_,aC⟩|⟨aj,_⟩|⟨aj,_⟩|⟨aj,_⟩
    ·rw[aC]at av;cases av
    ·rw[aj]at hm;simp[eZ]at hm
    ·rw[aj]at hm;simp[eZ]at hm
    ·rw[aj]at hm;simp[eZ]at hm
  ·refine rN (k9 fun ag=>?_);rw[e]at hm;rcases ty.b k ag with⟨aj,_⟩|aj|⟨aj,_⟩|⟨aj,_⟩<;>(rw[aj]at hm;simp[eZ]at hm)
  ·rw[e]at hm;refine⟨⟨k0.1,fun pY=>?_⟩,?_,?_⟩
   ·rcases ty.r _ pY with⟨b6,aj,aC⟩|⟨aj|aj,_⟩
    ·cases aC
    ·rw[aj]at hm;simp[eZ]at hm
    ·rw[aj]at hm;simp[eZ]at hm
   ·rw[rN (k9 fun ag=>?_)]
    ·exact k0.2.1
    ·rcases ty.b _ ag with⟨aj,_⟩|aj|⟨aj,_⟩|⟨aj,_⟩<;>(rw[aj]at hm;simp[eZ]at hm)
   ·rw[rO (k9 fun ag=>?_)]
    ·exact k0.2.2
    ·rcases ty.e _ ag with⟨aj,_⟩|⟨aj,_⟩|⟨aj,_⟩|⟨aj,o,aC,_⟩
     ·rw[aj]at hm;simp[eZ]at hm
     ·rw[aj]at hm;simp[eZ]at hm
     ·rw[aj]at hm;simp[eZ]at hm
     ·rw[k0.2.2]at aC;cases aC
  ·rw[rO (k9 fun ag=>?_)]
   ·exact av
   ·rw[e]at hm;rcases ty.e k ag with⟨aj,d,_,_,_,aC⟩|⟨aj,_⟩|⟨aj,_⟩|⟨aj,_⟩
    ·rw[aC]at av;cases av
    ·rw[aj]at hm;simp[eZ]at hm
    ·rw[aj]at hm;simp[eZ]at hm
    ·rw[aj]at hm;simp[eZ]at hm
  ·rw[e]at hm;refine⟨?_,?_,fun gw=>⟨gw,fun pY=>?_⟩⟩;rotate_left 2
   ·rcases ty.r _ pY with⟨b6,_,aC⟩|⟨aC|aC,_⟩
    ·cases aC
    ·rw[aC]at hm;simp[eZ]at hm
    ·rw[aC]at hm;simp[eZ]at hm
   ·refine rN (k9 fun ag=>?_);rcases ty.b _ ag with⟨aj,d,_,aC,_⟩|aj|⟨aj,_⟩|⟨aj,_⟩;rotate_left 3
    ·rw[aj]at hm;simp[eZ]at hm
    ·cases aC
    ·rw[aj]at hm;simp[eZ]at hm
    ·rw[aj]at hm;simp[eZ]at hm
   ·refine rO (k9 fun ag=>?_);rcases ty.e _ ag with⟨aj,d,_,aC,_⟩|⟨aj,_⟩|⟨aj,_⟩|⟨aj,_⟩
    ·cases aC
    ·rw[aj]at hm;simp[eZ]at hm
    ·rw[aj]at hm;simp[eZ]at hm
    ·rw[aj]at hm;simp[eZ]at hm
 ·refine⟨fun i hi e=>?_,fun k ab=>k9 fun ag=>?_,fun k ab=>k9 fun ag=>?_⟩
  ·rw[xO.d]at hi;rw[ty.d]at e;exact cC i i hi e rfl
  ·rcases p5 k ab with⟨bz,d,a2,a3,_⟩|bz|⟨bz,⟨j,a2⟩,_⟩|⟨bz,_⟩<;>rcases ty.b k ag with⟨b9,b6,bZ,fy,_⟩|b9|⟨b9,⟨du,bZ⟩,_⟩|⟨b9,⟨du,bZ⟩,_⟩;all_goals first|(rw[bz,b9]at hm;simp[eZ]at hm;done)|skip
   ·rw[a3]at fy;simp only[aD.loc.injEq]at fy;exact cC d b6 a2 bZ (by omega)
   ·rw[a3]at bZ;cases bZ
   ·rw[a3]at bZ;cases bZ
   ·rw[a2]at fy;cases fy
  ·rcases hle k ab with⟨bz,d,a2,a3,_,a4⟩|⟨bz,a2⟩|⟨bz,⟨j,a2⟩,_⟩|⟨bz,gF,a2,_⟩<;>rcases ty.e k ag with⟨b9,b6,bZ,fy,_,ov⟩|⟨b9,bZ⟩|⟨b9,⟨du,bZ⟩,_⟩|⟨b9,gy,bZ,_⟩
   ·rw[a3]at fy;simp only[aD.loc.injEq]at fy;exact cC d b6 a2 bZ (by omega)
   ·rw[bz,b9]at hm;simp[eZ]at hm
   ·rw[a3]at bZ;cases bZ
   ·rw[a4]at bZ;cases bZ
   ·rcases a2 with a2|⟨d,a2,a3,_⟩
    ·exact a2 ov
    ·rw[a3]at fy;simp only[aD.loc.injEq]at fy;exact cC d b6 a2 bZ (by omega)
   ·rw[bz,b9]at hm;simp[eZ]at hm
   ·rw[bz,b9]at hm;simp[eZ]at hm
   ·rw[bz,b9]at hm;simp[eZ]at hm
   ·rw[a2]at fy;cases fy
   ·rw[bz,b9]at hm;simp[eZ]at hm
   ·rw[bz,b9]at hm;simp[eZ]at hm
   ·rw[bz,b9]at hm;simp[eZ]at hm
   ·rw[ov]at a2;cases a2
   ·rw[bz,b9]at hm;simp[eZ]at hm
   ·rw[bz,b9]at hm;simp[eZ]at hm
   ·rw[bz,b9]at hm;simp[eZ]at hm
def vU(C:e7)(A:dc)(a:Act)(w:World):Prop:= ∃st ν,kS st A∧(∀k,A.F k→fresh st.n st.o k)∧cJ C st a w ν
theorem Jm{st:bo}{A:dc}(h:kS st A)(d:Nat)(p:ah):kS {st with t:=put d p st.t} (A.do ⟨some d,p,[],[],none⟩):=by
 refine⟨fun i=>?_,fun k=>?_,fun k=>?_⟩
 ·simp only[dc.do,oF,dz,h.t]
 ·simpa[dc.do,h5,look]using h.b k
 ·simpa[dc.do,h5,look]using h.e k
theorem Se{st:bo}{A:dc}(h:kS st A)(d:Nat)(p:ah)(o':List aD)(rm:aW aD):kS {st with t:=put d p st.t,o:=o'} (A.do ⟨some d,p,[],[],rm⟩):=by have:=Jm h d p;exact⟨this.t,this.b,this.e⟩
theorem VH{α:Type}{β:Type}:∀l:List (aD×α),cu ([]:List (aD×β)) l=l
 |[]=>rfl
 |(k,x)::r=>by simp[cu,look,VH r]
theorem y8{st:bo}{A:dc}(h:kS st A)(d:Nat)(p:ah)(κ:aD)(cs:List ah)(n':Nat)(o':List aD)(rm:aW aD):kS ⟨put d p st.t,cw κ cs st.b,st.e,n',o'⟩ (A.do ⟨some d,p,[(κ,cs)],[],rm⟩):=by
 refine⟨fun i=>?_,fun k=>?_,fun k=>?_⟩
 ·simp only[dc.do,oF,dz,h.t]
 ·simp only[dc.do,h5,look,iw,h.b];by_cases e:κ=k<;>simp[e]
 ·simpa[dc.do,h5,look]using h.e k
theorem EJ{st:bo}{A:dc}(h:kS st A)(κ:aD)(cs:List ah)(p:ah):kS {st with b:=cw κ cs st.b} (A.do ⟨none,p,[(κ,cs)],[],none⟩):=by
 refine⟨fun i=>?_,fun k=>?_,fun k=>?_⟩
 ·simpa[dc.do]using h.t i
 ·simp only[dc.do,h5,look,iw,h.b];by_cases e:κ=k<;>simp[e]
 ·simpa[dc.do,h5,look]using h.e k
theorem vf{st:bo}{A:dc}(h:kS st A)(d:Nat)(p:ah)(κ:aD)(o:fF)(n':Nat)(o':List aD)(rm:aW aD):kS ⟨put d p st.t,st.b,cw κ o st.e,n',o'⟩ (A.do ⟨some d,p,[],[(κ,o)],rm⟩):=by
 refine⟨fun i=>?_,fun k=>?_,fun k=>?_⟩
 ·simp only[dc.do,oF,dz,h.t]
 ·simpa[dc.do,h5,look]using h.b k
 ·simp only[dc.do,h5,look,iw,h.e];by_cases e:κ=k<;>simp[e]
theorem Sd{st:bo}{A:dc}(h:kS st A)(κ:aD)(o:fF)(p:ah):kS {st with e:=cw κ o st.e} (A.do ⟨none,p,[],[(κ,o)],none⟩):=by
 refine⟨fun i=>?_,fun k=>?_,fun k=>?_⟩
 ·simpa[dc.do]using h.t i
 ·simpa[dc.do,h5,look]using h.b k
 ·simp only[dc.do,h5,look,iw];by_cases e:κ=k<;>simp[e,h.e]
theorem JB{α:Type}{k:aD}:∀{l:List (aD×α)},k∈l.map (·.1)→(look k l).isSome
 |[],h=>by simp at h
 |(i,x)::r,h=>by
  simp only[look];split
  ·rfl
  ·rename_i e;simp only[gX,fU]at h;rcases h with h|h
   ·exact absurd h.symm e
   ·exact JB h
theorem uE{n:Nat}{o:List aD}{κ:aD}:∀j,fresh n (κ::o) j→fresh n o j∧j≠κ:=by intro j af;simp only[fresh,fU,not_or]at af⊢;exact⟨⟨af.1,af.2.2⟩,af.2.1⟩
theorem aaF{n:Nat}{o:List aD}{κ j:aD}(h:fresh n o j)(af:some κ≠some j):fresh n (κ::o) j:=by simp only[fresh,fU,not_or]at h⊢;exact⟨h.1,fun e=>af (by rw[e]),h.2⟩
theorem LR{P:cy}{bt:List (Nat×dB)}(aO:fN P bt=true){C:e7}{q:Bool}{n0:Nat}{i:dT}{o:Oper}(av:tQ C.N bt i o=true){A:dc}{x:kj}(ad:ed P q n0 i A x){a:Act}{w:World}(aJ:vU C A a w)
  {K:Act→World→Prop} {Q:Exit→Act→World→Prop} (c4:∀bj w',vU C (A.do x) bj w'→K bj w'):o.wp P a w K Q:=by
 obtain⟨st,ν,au,gw,aJ⟩:=aJ;have wy:∀(t:List (Nat×ah)) (b:List (aD×List ah)) (e:List (aD×fF)) (d:aW Nat) (p:ah) (bw:List (aD×List ah)) (ew:List (aD×fF)),∀k,(A.do ⟨d,p,bw,ew,none⟩).F k→fresh st.n st.o k:=fun t b e d p bw ew k ab=>gw k ab.1;have mu:∀(d:aW Nat) (p:ah) (bw:List (aD×List ah)) (ew:List (aD×fF)) (κ:aD),∀k,(A.do ⟨d,p,bw,ew,some κ⟩).F k→fresh st.n (κ::st.o) k:=fun d p bw ew κ k ab=>aaF (gw k ab.1) ab.2;cases i with
 |s i=>
  have hB:Cs C.N bt i o=true:=by simpa only[tQ]using av
  cases i with
  |v d i=>simp only[ed]at ad;obtain⟨c,p,J,U,_,rfl⟩:=ad;rw[←U8 au]at J;refine jr (κ:= .loc 0) (n':=0) (o₁:=[]) aO aJ hB (fun h=>by simp[ea.makes]at h) (fun h=>by simp[ea.makes]at h) (st':={st with t:=put d p st.t}) (by simp only[er,J]) U fun bj w' bn cp=>c4 _ _ ⟨_,bn,Jm au d p,fun k ab=>gw k ab.1,cp⟩
  |box d key v=>
   cases key with
   |some m=>simp only[ed]at ad
   |none=>simp only[ed]at ad;obtain⟨⟨J,_⟩,U,rfl⟩:=ad;rw[←il au]at U;refine jr (κ:= .loc (n0+d)) (n':=st.n) (o₁:= .loc (n0+d)::st.o) aO aJ hB (fun _=>gw _ J) (fun _=>uE) (st':=⟨put d (.ptr (.loc (n0+d)) 0) st.t,cw (.loc (n0+d)) (cells (cg st.t v)) st.b,st.e,st.n,.loc (n0+d)::st.o⟩) (by simp only[er]) U fun bj w' bn cp=>c4 _ _ ⟨_,bn,?_,mu _ _ _ _ _,cp⟩;rw[il au];exact y8 au d _ _ _ _ _ _
  |alloc d key z=>
   cases key with
   |some m=>simp only[ed]at ad
   |none=>simp only[ed]at ad;obtain⟨⟨J,_⟩,rfl⟩:=ad;refine jr (κ:= .loc (n0+d)) (n':=st.n) (o₁:= .loc (n0+d)::st.o) aO aJ hB (fun _=>gw _ J) (fun _=>uE) (st':=⟨put d (.ptr (.loc (n0+d)) 0) st.t,cw (.loc (n0+d)) (cells z) st.b,st.e,st.n,.loc (n0+d)::st.o⟩) (by simp only[er]) trivial fun bj w' bn cp=>c4 _ _ ⟨_,bn,y8 au d _ _ _ _ _ _,mu _ _ _ _ _,cp⟩
  |store sz u v=>simp only[ed]at ad;obtain⟨k,off,cs,J,U,al,rfl⟩:=ad;rw[←il au]at J al;rw[←au.b]at U;refine jr (κ:= .loc 0) (n':=0) (o₁:=[]) aO aJ hB (fun h=>by simp[ea.makes]at h) (fun h=>by simp[ea.makes]at h) (st':={st with b:=cw k (nn cs off (cells (cg st.t v))) st.b}) (by simp only[er,J,U]) al fun bj w' bn cp=>c4 _ _ ⟨{st with b:=cw k (nn cs off (cells (cg st.t v))) st.b},bn,by rw[il au];exact EJ au k _ _,fun k ab=>gw k ab.1,cp⟩
  |bsl d sz el xs=>simp only[ed]at ad;obtain⟨⟨J,_⟩,U,rfl⟩:=ad;rw[←s7 au]at U;refine jr (κ:= .loc (n0+d)) (n':=st.n) (o₁:= .loc (n0+d)::st.o) aO aJ hB (fun _=>gw _ J) (fun _=>uE) (st':=⟨put d (.slice sz (.own (.loc (n0+d))) (xs.map (cg st.t))) st.t,st.b,cw (.loc (n0+d)) ⟨xs.length,el,sz,none⟩ st.e,st.n,.loc (n0+d)::st.o⟩) (by simp only[er]) U fun bj w' bn cp=>c4 _ _ ⟨_,bn,?_,mu _ _ _ _ _,cp⟩;rw[s7 au];exact vf au d _ _ _ _ _ _
  |app d sz el u v=>
   simp only[ed]at ad;obtain⟨tag,xs,ks,ys,J,U,ad⟩:=ad;rw[←il au]at J U;rcases ad with⟨k,ow,rfl,al,a6,rfl⟩|⟨rfl,al,⟨a6,_⟩,rfl⟩
   ·rw[←au.e]at al;refine jr (κ:= .loc 0) (n':=0) (o₁:=[]) aO aJ hB (fun h=>by simp[ea.makes,J]at h) (fun h=>by simp[ea.makes,J]at h) (st':=⟨put d (.slice sz (.own k) (xs++ys)) st.t,st.b,cw k ⟨xs.length+ys.length,el,sz,none⟩ st.e,st.n,st.o⟩) (by simp only[er,J,U,al,and_self,if_true]) a6.2 fun bj w' bn cp=>c4 _ _ ⟨_,bn,vf au d _ _ _ _ _ _,fun k ab=>gw k ab.1,cp⟩
   ·refine jr (κ:= .loc (n0+d)) (n':=st.n) (o₁:= .loc (n0+d)::st.o) aO aJ hB (fun _=>gw _ a6) (fun _=>uE) (st':=⟨put d (.slice sz (.own (.loc (n0+d))) ys) st.t,st.b,cw (.loc (n0+d)) ⟨ys.length,el,sz,none⟩ st.e,st.n,.loc (n0+d)::st.o⟩) (by simp only[er,J,U,and_self,if_true]) al fun bj w' bn cp=>c4 _ _ ⟨_,bn,vf au d _ _ _ _ _ _,mu _ _ _ _ _,cp⟩
  |bslm d key sz el xs=>simp only[ed]at ad
  |mks d key sz el z x=>simp only[ed]at ad
  |appm d key sz el u v=>simp only[ed]at ad;obtain⟨k,n,xs,ks,ys,J,U,al,a6,rfl⟩:=ad;rw[←il au]at J U;rw[←au.e]at al;refine jr (κ:= .loc 0) (n':=0) (o₁:=[]) aO aJ hB (fun h=>by simp[ea.makes,J]at h) (fun h=>by simp[ea.makes,J]at h) (st':=⟨put d (.row sz k (xs.length+ys.length)) st.t,st.b,cw k ⟨xs.length+ys.length,el,sz,some (xs++ys)⟩ st.e,st.n,st.o⟩) (by simp only[er,rJ,J,U,al,and_self,if_true]) a6 fun bj w' bn cp=>c4 _ _ ⟨_,bn,vf au d _ _ _ _ _ _,fun k ab=>gw k ab.1,cp⟩
  |storeE sz u v=>simp only[ed]at ad;obtain⟨k,n,i,f,el,dy,xs,q,J,U,al,a6,rfl⟩:=ad;rw[←il au]at J a6;rw[←au.e]at U;refine jr (κ:= .loc 0) (n':=0) (o₁:=[]) aO aJ hB (fun h=>by simp[ea.makes]at h) (fun h=>by simp[ea.makes]at h) (st':={st with e:=cw k ⟨n,el,dy,some (xs.set i (l9 q f (cells (cg st.t v))))⟩ st.e}) (by simp only[er,qj,J,U,al,and_self,if_true]) a6 fun bj w' bn cp=>c4 _ _ ⟨{st with e:=cw k ⟨n,el,dy,some (xs.set i (l9 q f (cells (cg st.t v))))⟩ st.e},bn,by rw[il au];exact Sd au k _ _,fun k ab=>gw k ab.1,cp⟩
  |mkmap d key=>
   cases key with
   |none=>simp only[ed]at ad
   |some m=>simp only[ed]at ad;obtain⟨⟨J,_⟩,rfl⟩:=ad;exact jr (κ:= .obj m) (n':=st.n) (o₁:= .obj m::st.o) aO aJ hB (fun _=>gw _ J) (fun _=>uE) (st':=⟨put d (.gmap (.obj m)) st.t,cw (.obj m) [.hdm 0 []] st.b,st.e,st.n,.obj m::st.o⟩) (by simp only[er]) trivial fun bj w' bn cp=>c4 _ _ ⟨_,bn,y8 au d _ _ _ _ _ _,mu _ _ _ _ _,cp⟩
  |mput b7 u k v=>simp only[ed]at ad;obtain⟨m,cs,cs',J,U,al,rfl⟩:=ad;rw[←il au]at J;rw[←il au,←il au]at al;rw[←au.b]at U;exact jr (κ:= .loc 0) (n':=0) (o₁:=[]) aO aJ hB (fun h=>by simp[ea.makes]at h) (fun h=>by simp[ea.makes]at h) (st':={st with b:=cw m cs' st.b}) (by simp only[er,J,U,al]) trivial fun bj w' bn cp=>c4 _ _ ⟨{st with b:=cw m cs' st.b},bn,EJ au m _ _,fun k ab=>gw k ab.1,cp⟩
  |range d key x=>simp only[ed]at ad
 |next d x=>simp only[ed]at ad
 |call d f xs=>
  simp only[ed]at ad;obtain⟨n,dh,J,ad⟩:=ad;rw[←il au]at J;rcases ad with⟨⟨s,ai,r,rm,bE,cc,c8,h4,lq,ox,Aq,rfl⟩,_⟩|⟨cD,r,rfl,bE,cc,c8,rfl⟩;rotate_left
  ·rw[←s7 au]at cc c8;simp only[tQ]at av;split at av
   ·rename_i qA args zS mB;simp only[cA,dG]at av;obtain⟨⟨⟨aj,aC⟩,bg⟩,da⟩:=av;have lv:=dZ aJ bg;rw[J]at lv;refine Ou aJ mB aj aC lv (Cm aJ da) (K:=fun st'=>st'={st with t:=put cD r st.t,o:= .loc (n0+cD)::st.o}) ⟨⟨[],[]⟩,_,some (n0+cD),st.n,fun _=>.loc (n0+cD)::st.o,fun k cs ab=>by simp[look]at ab,fun k cs ab=>by simp[look]at ab,⟨fun _=>rfl,fun _=>rfl⟩,jw (fun _ h=>h.elim) _ cc,c8,fun m hm=>?_,fun k ev ai bp ab=>?_,?_⟩ ?_
    ·cases hm;exact gw _ bE.1
    ·obtain⟨_,rfl⟩:=bp;have:=uE k ab;exact⟨by simpa[cO]using this.1,fun m hm=>by cases hm;exact this.2⟩
    ·rintro ev n1 ⟨rfl,rfl⟩;refine⟨⟨fun m hm=>by simp[look]at hm,fun m hm=>by simp[look]at hm⟩,?_⟩;simp[after,VH,eC]
    ·rintro st' bj w' bn rfl cp;exact c4 _ _ ⟨_,bn,Se au cD r _ _,mu _ _ _ _ _,cp⟩
   ·cases av
  rw[←s7 au]at ox Aq;simp only[tQ]at av;split at av
  ·rename_i qA args zS mB;simp only[cA,dG]at av;obtain⟨⟨⟨aj,aC⟩,bg⟩,da⟩:=av;have lv:=dZ aJ bg;rw[J]at lv;obtain⟨a8,bU,cj,eB,c5⟩:=lq;refine Ot aJ mB aj aC lv (Cm aJ da) (K:=fun st'=>st'=after st s ai d r) (.inl ⟨s,_,fun k cs ab=>⟨by rw[au.b];exact(bE k cs ab).1,.inl (by simp[ab]),(bE k cs ab).2⟩,fun k o' ab=>⟨by rw[au.e];exact(cc k o' ab).1,.inr (by simp[ab]),(cc k o' ab).2⟩,c8,ox,Aq,?_⟩) ?_
   ·rintro ev n1 ⟨rfl,rfl⟩;refine⟨⟨fun m hm=>?_,fun m hm=>?_⟩,rfl⟩
    ·rcases a8 _ hm with h|h
     ·exact .inl h
     ·exact .inr (gw _ (c5 _ h).2.1).2
    ·rcases bU _ hm with h|h
     ·exact .inl h
     ·exact .inr (gw _ (c5 _ h).2.1).2
   ·rintro st' bj w' bn rfl cp;refine c4 _ _ ⟨_,bn,⟨fun i=>?_,fun k=>?_,fun k=>?_⟩,fun k ab=>?_,cp⟩
    ·simp only[after,dc.do];cases d with
     |none=>simpa[eC]using au.t i
     |some d=>simp only[eC,oF,dz,au.t]
    ·simp only[after,dc.do,h5,xc,tH];by_cases ag:(look k s.b).isSome
     ·have:=cj k ag;obtain⟨y,aL⟩:=fE.1 this;simp[ag,aL]
     ·cases aA:look k ai.b with
      |none=>simp only[ag,au.b];cases A.b k<;>simp
      |some y=>
       rcases a8 k (by simp[aA])with h|h
       ·exact absurd h ag
       ·have:=c5 k h;simp[ag,au.b,this]
    ·simp only[after,dc.do,h5,xc,tH];by_cases ag:(look k s.e).isSome
     ·have:=eB k ag;obtain⟨y,aL⟩:=fE.1 this;simp[ag,aL]
     ·cases aA:look k ai.e with
      |none=>simp only[ag,au.e];cases A.e k<;>simp
      |some y=>
       rcases bU k (by simp[aA])with h|h
       ·exact absurd h ag
       ·have:=c5 k h;simp[ag,au.e,this]
    ·have Ic:=gw k ab.1;have nO:=aJ.lookNone Ic;simp only[after];refine⟨Ic.1,fun ji=>?_⟩;rcases ki.1 ji with ji|ji
     ·exact Ic.2 ji
     ·rcases ki.1 ji with ji|ji
      ·rcases a8 k (JB ji)with h|h
       ·obtain⟨y,aL⟩:=fE.1 h;have:=(bE k y aL).1;rw[←au.b,nO.1]at this;cases this
       ·exact ab.2 h
      ·rcases bU k (JB ji)with h|h
       ·obtain⟨y,aL⟩:=fE.1 h;have:=(cc k y aL).1;rw[←au.e,nO.2]at this;cases this
       ·exact ab.2 h
  ·cases av
theorem VX{P:cy}{bt:List (Nat×dB)}(aO:fN P bt=true){C:e7}{q:Bool}{n0:Nat}{ops:Array Oper}{g:cY}{o:Oper}{j:Nat}(af:ops[j]? =some o)(av:AM C.N bt ops.toList g o=true){A:dc}{x:kj}(ad:kk P q n0 g A x){a:Act}{w:World}(aJ:vU C A a w)
  {K:Act→World→Prop} {Q:Exit→Act→World→Prop} (c4:∀bj w',vU C (A.do x) bj w'→K bj w'):wpOp P ops Q j K a w:=by
 unfold wpOp;rw[af];simp only;simp only[AM,cA]at av;obtain⟨p4,qN⟩:=av;unfold kk at ad;cases A6:g.g with
 |none=>
  cases eM:o.guard with
  |some x=>simp[eM,A6]at p4
  |none=>
   have hw:od o (yielded ops a.tmps)=true:=by simp[od,eM]
   rw[if_pos hw];simp only[A6]at ad;exact .inl (LR aO qN ad aJ c4)
 |some xK=>
  obtain⟨s,want⟩:=xK;cases eM:o.guard with
  |none=>simp[eM,A6]at p4
  |some akC=>
   obtain⟨amK,bY⟩:=akC;simp only[eM,A6,cA,dG,fx]at p4;obtain⟨⟨⟨⟨rfl,U⟩,al⟩,a6⟩,bW⟩:=p4;obtain⟨st,ν,au,gw,dx⟩:=id aJ;obtain⟨kg,oa⟩:=VM dx U al;simp only[A6]at ad;have Q0:∀(h:x=kM g.i.dst),K (a.put o.dst undef) w:=by
    rintro rfl;rw[a6];refine c4 _ _ ⟨_,ν,?_,fun k ab=>?_,dx.put bW (p:= .tuple []) (by simp[a7,cH,undef])⟩
    ·refine⟨fun i=>?_,fun k=>?_,fun k=>?_⟩
     ·simp only[dc.do,kM];cases g.i.dst with
      |none=>simpa[eC]using au.t i
      |some d=>simp only[eC,oF,dz,au.t]
     ·simpa[dc.do,h5,look,kM]using au.b k
     ·simpa[dc.do,h5,look,kM]using au.e k
    ·exact gw k ab.1
   split at ad
   ·rename_i b ae;have aL:=kg b (by rw[au.t];exact ae);rcases ad with⟨rfl,ad⟩|⟨rfl,ad⟩
    ·have hw:od o (yielded ops a.tmps)=true:=by simp[od,eM,aL]
     rw[if_pos hw];exact .inl (LR aO qN ad aJ c4)
    ·have hw:¬(od o (yielded ops a.tmps)=true):=by simp[od,eM,aL]
     rw[if_neg hw];exact Q0 ad
   ·rename_i ae;have aL:=oa (by rw[au.t];exact ae);have hw:¬(od o (yielded ops a.tmps)=true):=by simp[od,eM,aL]
    rw[if_neg hw];exact Q0 ad
   ·exact ad.elim
def uy(P:cy)(q:Bool)(n0:Nat)(K:dc→Prop):List (Nat×cY)→dc→Prop
 |[],A=>K A
 |(_,g)::r,A=> ∃x,kk P q n0 g A x∧uy P q n0 K r (A.do x)
theorem Mq{P:cy}{q:Bool}{n0:Nat}{K:dc→Prop}{i:Nat}{g:cY}:∀(nA oi:List (Nat×cY)) (A:dc),(∀x∈nA,yo x.2 g=true)→uy P q n0 K (nA++(i,g)::oi) A→∃x,kk P q n0 g A x∧uy P q n0 K (nA++oi) (A.do x)
 |[],oi,A,_,h=>h
 |(j,PV)::nA,oi,A,aw,h=>by simp only[bN,uy]at h;obtain⟨y,aL,h⟩:=h;obtain⟨x,ad,h⟩:=Mq nA oi (A.do y) (fun z bC=>aw z (oW _ bC)) h;obtain⟨s1,s2,s3⟩:=swap (aw _ (List.mem_cons_self ..)) aL ad;refine⟨x,s1,y,s2,?_⟩;rw[←dc.do_comm A s3];exact h
def rem(hp:Array Bool):Nat→List cY→List (Nat×cY)
 |_,[]=>[]
 |k,g::r=>if hp.getD k false then rem hp (k+1) r else(k,g)::rem hp (k+1) r
theorem T7{l aX:Array Bool}:∀(gs:List cY) (k:Nat),(∀j,k≤j→l.getD j false=aX.getD j false)→rem l k gs=rem aX k gs
 |[],_,_=>rfl
 |g::r,k,h=>by simp only[rem,h k (eQ _),T7 r (k+1) fun j af=>h j (by omega)]
theorem DK{l:Array Bool}{i j:Nat}(h:i<l.size):(l.setIfInBounds i true).getD j false=if i=j then true else l.getD j false:=by
 simp only[Array.getD_eq_getD_getElem?];by_cases e:i=j
 ·subst e;simp[h]
 ·simp[e]
theorem KG{l:Array Bool}{i:Nat}(hi:i<l.size)(aA:l.getD i false=false):∀(gs:List cY) (k:Nat),k≤i→i<k+gs.length→∃nA oi g,gs[i-k]? =some g∧rem l k gs=nA++(i,g)::oi∧rem (l.setIfInBounds i true) k gs=nA++oi∧
  ∀x∈nA,gs[x.1-k]? =some x.2∧k≤x.1∧x.1<i∧l.getD x.1 false=false
 |[],k,J,U=>by simp at U;omega
 |g::r,k,J,U=>by
  by_cases e:k=i
  ·subst e;refine⟨[],rem l (k+1) r,g,by simp,by simp[rem,aA],?_,fun x ad=>by simp at ad⟩;simp only[rem,DK hi,if_true,bT];exact T7 r (k+1) fun j af=>by rw[DK hi,if_neg (by omega)]
  ·obtain⟨nA,oi,e8,aj,aC,bg,da⟩:=KG hi aA r (k+1) (by omega) (by simp at U;omega);have uO:i-k=(i-(k+1))+1:=by omega
   have gN:(l.setIfInBounds i true).getD k false=l.getD k false:=by rw[DK hi,if_neg (by omega)]
   by_cases ab:l.getD k false=true
   ·refine⟨nA,oi,e8,by rw[uO];simpa using aj,by simp only[rem,ab,if_true,aC],by simp only[rem,gN,ab,if_true,bg],fun x ad=>?_⟩;obtain⟨f1,f2,f3,f4⟩:=da x ad;refine⟨?_,by omega,f3,f4⟩;have:x.1-k=(x.1-(k+1))+1:=by omega
    rw[this];simpa using f1
   ·have ab:l.getD k false=false:=by simpa using ab
    refine⟨(k,g)::nA,oi,e8,by rw[uO];simpa using aj,by simp[rem,ab,aC],by simp[rem,gN,ab,bg],fun x ad=>?_⟩;rcases fU.1 ad with rfl|ad
    ·exact⟨by simp,eQ _,by simp;omega,ab⟩
    ·obtain⟨f1,f2,f3,f4⟩:=da x ad;refine⟨?_,by omega,f3,f4⟩;have:x.1-k=(x.1-(k+1))+1:=by omega
     rw[this];simpa using f1
def tI(acc:List Nat):List Edge→Nat
 |[]=>0
 |e::r=>if Region.binds .any e then(2 ^ e.on)|||(acc.getD e.on 0)|||tI acc r else tI acc r
def q6(acc:List Nat):List Oper→List Nat
 |[]=>acc
 |o::os=>q6 (acc++[tI acc o.after.toList]) os
def Cp(m:Nat)(h:cY):Nat→List cY→Bool
 |_,[]=>true
 |i,g::r=>(m.testBit i||yo g h)&&Cp m h (i+1) r
def B9:List cY→List cY→List Nat→Bool
 |_,[],_=>true
 |pre,h::r,m::ms=>Cp m h 0 pre&&B9 (pre++[h]) r ms
 |_,_,[]=>false
def Ax:Nat→List Oper→Bool
 |_,[]=>true
 |k,o::os=>o.after.toList.all (fun e=> !Region.binds .any e||decide (e.on<k))&&Ax (k+1) os
def Aj(gs:List cY)(ops:List Oper):Bool:=Ax 0 ops&&B9 [] gs (q6 [] ops)
theorem Ju{acc:List Nat}{j:Nat}:∀{es:List Edge},(tI acc es).testBit j=true→∃e∈es,Region.binds .any e=true∧(j=e.on∨(acc.getD e.on 0).testBit j=true)
 |[],h=>by simp[tI]at h
 |e::r,h=>by
  simp only[tI]at h;split at h
  ·rename_i ae;simp only[Nat.testBit_or,mf]at h;rcases h with(h|h)|h
   ·refine⟨e,by simp,ae,.inl ?_⟩;rw[Nat.testBit_two_pow]at h;have cp:e.on=j:=by simpa using h
    exact cp.symm
   ·exact⟨e,by simp,ae,.inr h⟩
   ·obtain⟨fB,J,U⟩:=Ju h;exact⟨fB,by simp[J],U⟩
  ·obtain⟨fB,J,U⟩:=Ju h;exact⟨fB,by simp[J],U⟩
theorem Jv:∀(os:List Oper) (acc:List Nat) (k:Nat),k<acc.length→(q6 acc os)[k]? =acc[k]?
 |[],acc,k,_=>rfl
 |o::os,acc,k,h=>by simp only[q6];rw[Jv os _ k (by simp;omega),List.getElem?_append_left h]
theorem Sl:∀(os:List Oper) (acc:List Nat) (k:Nat) (o:Oper),os[k]? =some o→∃sR,(q6 acc os)[acc.length+k]? =some (tI sR o.after.toList)∧sR.length=acc.length+k∧∀i,i<sR.length→sR[i]? =(q6 acc os)[i]?
 |[],acc,k,o,h=>by simp at h
 |o'::os,acc,0,o,h=>by
  simp only[List.getElem?_cons_zero,dz]at h;subst h;refine⟨acc,?_,by simp,fun i hi=>?_⟩
  ·simp only[q6,Nat.add_zero];rw[Jv os _ _ (by simp)];simp
  ·simp only[q6];rw[Jv os _ i (by simp;omega),List.getElem?_append_left hi]
 |o'::os,acc,k+1,o,h=>by simp only[List.getElem?_cons_succ]at h;obtain⟨sR,J,U,al⟩:=Sl os (acc++[tI acc o'.after.toList]) k o h;refine⟨sR,?_,by rw[U];simp;omega,fun i hi=>by rw[al i hi];rfl⟩;simp only[q6];rw[show acc.length+(k+1)=(acc++[tI acc o'.after.toList]).length+k from by simp;omega];exact J
def LO(ops:Array Oper)(hp:Array Bool):Prop:= ∀k o,ops[k]? =some o→hp.getD k false=true→∀e∈o.after.toList,Region.binds .any e=true→hp.getD e.on false=true
theorem aep{ops:Array Oper}{hp:Array Bool}(aP:LO ops hp):∀(k:Nat) (o:Oper),ops[k]? =some o→(∀e∈o.after.toList,Region.binds .any e=true→hp.getD e.on false=true)→∀j,((q6 [] ops.toList).getD k 0).testBit j=true→hp.getD j false=true:=by
 intro k;induction k using Nat.strongRecOn with
 |_ k bM=>
  intro o av au j af;obtain⟨sR,J,U,al⟩:=Sl ops.toList [] k o (by simpa using av);simp only[List.length_nil,Nat.zero_add]at J U;rw[List.getD_eq_getElem?_getD,J]at af;obtain⟨e,he,ae,cI⟩:=Ju af;rcases cI with rfl|cI
  ·exact au e he ae
  ·by_cases bu:e.on<sR.length
   ·have hm:sR.getD e.on 0=(q6 [] ops.toList).getD e.on 0:=by rw[List.getD_eq_getElem?_getD,al _ bu,List.getD_eq_getElem?_getD]
    have ab:k<ops.size:=(Array.getElem?_eq_some_iff.1 av).1;have hB:ops[e.on]? =some ops[e.on]:=Array.getElem?_eq_getElem (by omega);rw[hm]at cI;exact bM e.on (by omega) _ hB (fun fB uM fL=>aP e.on _ hB (au e he ae) fB uM fL) j cI
   ·rw[List.getD_eq_getElem?_getD,pJ (by omega)]at cI;simp at cI
theorem Un{m:Nat}{h:cY}:∀{gs:List cY} {i0:Nat},Cp m h i0 gs=true→∀i g,gs[i]? =some g→m.testBit (i0+i)=true∨yo g h=true
 |[],i0,_,i,g,a1=>by simp at a1
 |e8::r,i0,aJ,0,g,a1=>by simp only[Cp,cA,mf]at aJ;simp only[List.getElem?_cons_zero,dz]at a1;subst a1;simpa using aJ.1
 |e8::r,i0,aJ,i+1,g,a1=>by simp only[Cp,cA]at aJ;have:=Un aJ.2 i g (by simpa using a1);rwa[show i0+1+i=i0+(i+1)from by omega]at this
theorem Td:∀{gs pre:List cY} {ms:List Nat},B9 pre gs ms=true→∀j h,gs[j]? =some h→∀i g,i<pre.length+j→(pre++gs)[i]? =some g→(ms.getD j 0).testBit i=true∨yo g h=true
 |[],pre,ms,_,j,h,af,_,_,_,_=>by simp at af
 |cp::r,pre,[],bF,j,h,af,_,_,_,_=>by simp[B9]at bF
 |cp::r,pre,m::ms,bF,j,h,af,i,g,hi,a1=>by
  simp only[B9,cA]at bF;cases j with
  |zero=>simp only[List.getElem?_cons_zero,dz]at af;subst af;rw[List.getElem?_append_left (by omega)]at a1;simpa using Un bF.1 i g a1
  |succ j=>have:=Td bF.2 j h (by simpa using af) i g (by simp;omega) (by simpa using a1);simpa using this
theorem OU:∀{os:List Oper} {k:Nat},Ax k os=true→∀i o,os[i]? =some o→∀e∈o.after.toList,Region.binds .any e=true→e.on<k+i
 |[],k,_,i,o,av,_,_,_=>by simp at av
 |o'::os,k,h,0,o,av,e,he,ae=>by simp only[Ax,cA,ja]at h;simp only[List.getElem?_cons_zero,dz]at av;subst av;have:=h.1 e he;simpa[ae]using this
 |o'::os,k,h,i+1,o,av,e,he,ae=>by simp only[Ax,cA]at h;have:=OU h.2 i o (by simpa using av) e he ae;omega
theorem PX{N:Nat}{bt:List (Nat×dB)}{ops:List Oper}:∀{gs:List cY} {os:List Oper},jZ N bt ops gs os=true→∀(i:Nat) (g:cY),gs[i]? =some g→∃o,os[i]? =some o∧AM N bt ops g o=true
 |[],[],_,i,g,h=>by simp at h
 |[],_::_,h,_,_,_=>by simp[jZ]at h
 |_::_,[],h,_,_,_=>by simp[jZ]at h
 |e8::gs,o::os,h,0,g,a1=>by simp only[jZ,cA]at h;simp only[List.getElem?_cons_zero,dz]at a1;subst a1;exact⟨o,by simp,h.1⟩
 |e8::gs,o::os,h,i+1,g,a1=>by simp only[jZ,cA]at h;obtain⟨o',J,U⟩:=PX h.2 i g (by simpa using a1);exact⟨o',by simpa using J,U⟩
theorem HU{N:Nat}{bt:List (Nat×dB)}{ops:List Oper}:∀{gs:List cY} {os:List Oper},jZ N bt ops gs os=true→gs.length=os.length
 |[],[],_=>rfl
 |[],_::_,h=>by simp[jZ]at h
 |_::_,[],h=>by simp[jZ]at h
 |g::gs,o::os,h=>by simp only[jZ,cA]at h;simp[HU h.2]
theorem T8{l:Array Bool}:∀(gs:List cY) (k:Nat),rem l k gs=[]∨ ∃i g,i<gs.length∧gs[i]? =some g∧l.getD (k+i) false=false∧∀j,j<i→l.getD (k+j) false=true
 |[],_=>.inl rfl
 |g::r,k=>by
  by_cases h:l.getD k false=true
  ·rcases T8 (l:=l) r (k+1)with J|⟨i,e8,J,U,al,a6⟩
   ·left;simp only[rem,h,if_true,J]
   ·refine .inr ⟨i+1,e8,by simp;omega,by simpa using U,by rw[show k+(i+1)=k+1+i from by omega];exact al,fun j af=>?_⟩;cases j with
    |zero=>simpa using h
    |succ j=>rw[show k+(j+1)=k+1+j from by omega];exact a6 j (by omega)
  ·exact .inr ⟨0,g,by simp,by simp,by simpa using h,fun j af=>by omega⟩
theorem Wm{P:cy}{bt:List (Nat×dB)}(aO:fN P bt=true){C:e7}{q:Bool}{n0:Nat}{ops:Array Oper}{gs:List cY}(j2:jZ C.N bt ops.toList gs ops.toList=true)(DS:Aj gs ops.toList=true){K:dc→Prop}{Q:Exit→Act→World→Prop}
  (ht:∀A a w,K A→vU C A a w→Q .normal a w):∀(fuel:Nat) (hp:Array Bool) (A:dc) (a:Act) (w:World),hp.size=ops.size→LO ops hp→(rem hp 0 gs).length≤fuel→uy P q n0 K (rem hp 0 gs) A→vU C A a w→wpAny P .any ops Q fuel hp a w:=by
 simp only[Aj,cA]at DS;obtain⟨H4,acM⟩:=DS;have hlen:gs.length=ops.size:=by simpa using HU j2
 have Qi:∀(hp:Array Bool) (A:dc) (a:Act) (w:World),hp.size=ops.size→uy P q n0 K (rem hp 0 gs) A→vU C A a w→Region.ready .any ops hp=[]→Q .normal a w:=by
  intro hp A a w dW rV aJ Ef;rcases T8 (l:=hp) gs 0 with h|⟨i,g,J,U,al,a6⟩
  ·rw[h]at rV;exact ht A a w rV aJ
  ·exfalso;have hi:i<ops.size:=by omega
   have ji:i∈Region.ready .any ops hp:=by
    unfold Region.ready;simp only[mT,List.mem_range,cA,Bool.not_eq_true'];refine⟨hi,?_,?_⟩
    ·rw[Nat.zero_add]at al;simp only[Array.getD_eq_getD_getElem?]at al⊢;rw[Array.getElem?_eq_getElem (by omega)]at al⊢;simpa using al
    ·rw[Array.getElem?_eq_getElem hi];simp only[ny,kR];rw[←Array.all_toList,ja];intro e he;by_cases ae:Region.binds .any e=true
     ·have bu:=OU H4 i ops[i] (by simp[hi]) e he ae;have:=a6 e.on (by omega);rw[Nat.zero_add]at this;simp[this]
     ·simp[ae]
   rw[Ef]at ji;simp at ji
 intro fuel;induction fuel with
 |zero=>
  intro hp A a w dW aP aI rV aJ;have acG:rem hp 0 gs=[]:=List.eq_nil_of_length_eq_zero (by omega);have Ef:Region.ready .any ops hp=[]:=by
   rw[List.eq_nil_iff_forall_not_mem];intro i hi;unfold Region.ready at hi;simp only[mT,List.mem_range,cA,Bool.not_eq_true']at hi;obtain⟨J,U,_⟩:=hi;have aA:hp.getD i false=false:=by simp only[Array.getD_eq_getD_getElem?]at U⊢;rw[Array.getElem?_eq_getElem (by omega)]at U⊢;simpa using U
   obtain⟨nA,oi,g,_,aC,_⟩:=KG (by omega) aA gs 0 (by omega) (by omega);rw[acG]at aC;simp at aC
  exact⟨Ef,Qi hp A a w dW rV aJ Ef⟩
 |succ fuel bM=>
  intro hp A a w dW aP aI rV aJ;refine⟨Qi hp A a w dW rV aJ,fun i hi=>?_⟩;unfold Region.ready at hi;simp only[mT,List.mem_range,cA,Bool.not_eq_true']at hi;obtain⟨J,U,al⟩:=hi;have aA:hp.getD i false=false:=by simp only[Array.getD_eq_getD_getElem?]at U⊢;rw[Array.getElem?_eq_getElem (by omega)]at U⊢;simpa using U
  have av:ops[i]? =some ops[i]:=Array.getElem?_eq_getElem J;have Qk:∀e∈ops[i].after.toList,Region.binds .any e=true→hp.getD e.on false=true:=by rw[av]at al;simp only[ny,kR]at al;rw[←Array.all_toList,ja]at al;intro e he ae;simpa[ae]using al e he
  obtain⟨nA,oi,g,aj,aC,bg,da⟩:=KG (by omega) aA gs 0 (by omega) (by omega);simp only[Nat.sub_zero]at aj da;rw[aC]at rV;obtain⟨x,ad,abP⟩:=Mq nA oi A (fun y aL=>by
   obtain⟨f1,f2,f3,f4⟩:=da y aL;rcases Td acM i g aj y.1 y.2 (by simpa using f3) (by simpa using f1)with h|h
   ·have:=aep aP i ops[i] av Qk y.1 h;rw[f4]at this;cases this
   ·exact h) rV
  obtain⟨o',g1,g2⟩:=PX j2 i g aj;have:o'=ops[i]:=by rw[sG,av]at g1;exact(fw g1).symm
  subst this;refine VX aO av g2 ad aJ fun bj w' dx=>?_;refine bM (hp.setIfInBounds i true) (A.do x) bj w' (by simpa using dW) ?_ ?_ (by rw[bg];exact abP) dx
  ·intro k o ab au e he ae;rw[DK (by omega)]at au⊢;split
   ·rfl
   ·by_cases uO:i=k
    ·subst uO;rw[av]at ab;cases ab;exact Qk e he ae
    ·rw[if_neg uO]at au;exact aP k o ab au e he ae
  ·rw[bg];rw[aC]at aI;simp at aI⊢;omega
def wq(n0 d:Nat)(st:bo):Prop:= .loc (n0+d)∉st.o∧look (.loc (n0+d)) st.b=none∧look (.loc (n0+d)) st.e=none
def fI.loadO(q:Bool)(t:List (Nat×ah)):fI→Prop
 | .load _ _ x=>q=true∨w3 (cg t x)=true
 | .loadB _ _ _=>True
 | .mgetB _ _ _ _ _=>True
 | .mget _ _ _ _ _=>q=true
 | .ment _=>q=true
 | .mlen _=>q=true
 |_=>True
def ls(q:Bool)(nw:List Nat)(n0:Nat)(st:bo):ea→Prop
 | .v _ i=>i.loadO q st.t
 | .box d none _=>wq n0 d st
 | .alloc d none _=>wq n0 d st
 | .box _ (some _) _=>eI
 | .alloc _ (some _) _=>eI
 | .store _ x _=>match cg st.t x with| .ptr _ _=>True|_=>eI
 | .bslm _ _ _ _ _=>eI
 | .mks _ _ _ _ _ _=>eI
 | .appm _ _ _ _ x _=>match cg st.t x with| .row _ _ _=>True|_=>eI
 | .storeE _ _ _=>True
 | .mkmap _ none=>eI
 | .mkmap _ (some m)=>m∈nw∧look (.obj m) st.b=none∧look (.obj m) st.e=none
 | .mput _ _ _ _=>True
 | .range _ _ _=>eI
 | .bsl d _ _ _=>wq n0 d st
 | .app d _ _ x _=>match cg st.t x with
  | .slice _ .nil _=>wq n0 d st
  | .slice _ (.own k) _=>(look k st.e).bind (·.xs)=none
  |_=>True
def oz(n0:Nat):ea→aD
 | .mkmap _ (some m)=>.obj m
 | .v d _| .box d _ _| .alloc d _ _| .bsl d _ _ _| .app d _ _ _ _| .bslm d _ _ _ _| .appm d _ _ _ _ _| .mkmap d _| .range d _ _| .mks d _ _ _ _ _=>.loc (n0+d)
 | .store _ _ _| .mput _ _ _ _| .storeE _ _ _=>.loc n0
def adV(nw:List Nat)(st:bo)(s ai:cF)(rm:aW aD):Prop:=(∀k,(look k ai.b).isSome→(look k s.b).isSome∨rm=some k)∧(∀k,(look k ai.e).isSome→(look k s.e).isSome∨rm=some k)∧(∀k,(look k s.b).isSome→(look k ai.b).isSome)∧(∀k,(look k s.e).isSome→(look k ai.e).isSome)∧
 (∀k,rm=some k→(∃j,j∈nw∧k= .obj j)∧look k st.b=none∧look k st.e=none∧((look k ai.b).isSome∨(look k ai.e).isSome))
def hO(P:cy)(q:Bool)(nw:List Nat)(n:Nat)(args:List ah)(st:bo)(d:aW Nat)(K:bo→Prop):Prop:=
 (∃cD r,d=some cD∧wq st.n cD st∧aH (fun _=>eI) args∧Gh P n (st.n+cD) args ⟨[],[]⟩ (fun ev dD=>ev=r∧dD=⟨[],[]⟩)∧K {st with t:=put cD r st.t,o:= .loc (st.n+cD)::st.o})∨
 ∃s ai r rm,gu (inObs s) s.b st.b∧n4 (inObs s) s.e st.e∧ix s∧ix ai∧adV nw st s ai rm∧aH (inObs s) args∧bJ P n args s (fun ev dD=>ev=r∧dD=ai)∧(q=true→ai.b=[]∧ai.e=[])∧K {after st s ai d r with o:=st.o}
def jX(P:cy)(q:Bool)(nw:List Nat)(n0:Nat)(st:bo)(K:bo→Prop):dT→Prop
 | .s i=>match er (oz n0 i) st.n (oz n0 i::st.o) st i with
  |some (c,st')=>ls q nw n0 st i∧c∧K st'
  |none=>eI
 | .call d f xs=>match cg st.t f with
  | .func n dh=>hO P q nw n (cU (xs.map (cg st.t)++dh)) st d K
  |_=>eI
 | .next _ _=>eI
def hA(P:cy)(q:Bool)(nw:List Nat)(n0:Nat):List cY→bo→(bo→Prop)→Prop
 |[],st,K=>K st
 |⟨none,i⟩::r,st,K=>jX P q nw n0 st (fun st'=>hA P q nw n0 r st' K) i
 |⟨some (s,want),i⟩::r,st,K=>match get s st.t with
  | .bool b=>(b=want→jX P q nw n0 {st with t:=put s (.bool want) st.t} (fun st'=>hA P q nw n0 r st' K) i)∧(b= !want→hA P q nw n0 r {st with t:=eC i.dst (.tuple []) (put s (.bool !want) st.t)} K)
  | .tuple []=>hA P q nw n0 r {st with t:=eC i.dst (.tuple []) st.t} K
  |_=>eI
structure rE (nw:List Nat) (n0 N:Nat) (oP:List aD) (st:bo) (A:dc):Prop where
 like:kS st A
 n:st.n=n0
 F:∀k,fresh n0 st.o k→(∀j∈nw,k≠ .obj j)→A.F k
 o:∀k∈st.o,k∈oP∨(∃d,d<N∧k= .loc (n0+d))∨ ∃j∈nw,k= .obj j
def Ac(nw:List Nat)(A:dc):Prop:= ∀j∈nw,A.b (.obj j)=none→A.e (.obj j)=none→A.F (.obj j)
theorem Ac.do{P:cy}{q:Bool}{n0:Nat}{nw:List Nat}{A:dc}(h:Ac nw A){g:cY}{x:kj}(ad:kk P q n0 g A x):Ac nw (A.do x):=by
 intro j af ae he;refine⟨h j af (He ae) (Hf he),fun pY=>?_⟩;rcases(Lh ad).r _ pY with⟨d,_,e⟩|⟨_,_,ag⟩
 ·cases e
 ·rcases ag with ag|ag
  ·obtain⟨y,aL⟩:=fE.1 ag;simp[dc.do,h5,aL]at ae
  ·obtain⟨y,aL⟩:=fE.1 ag;simp[dc.do,h5,aL]at he
theorem O2{P:cy}{q:Bool}{nw:List Nat}{n0 N:Nat}{oP:List aD}{i:dT}(aP:∀d,i.dst=some d→d<N){st:bo}{A:dc}(h:rE nw n0 N oP st A)(nJ:Ac nw A){K:bo→Prop}(he:jX P q nw n0 st K i):∃x st',ed P q n0 i A x∧K st'∧rE nw n0 N oP st' (A.do x):=by
 have au:=h.like;have wG:∀d,wq n0 d st→(A.F (.loc (n0+d))∧A.b (.loc (n0+d))=none∧A.e (.loc (n0+d))=none):=fun d aI=>⟨h.F _ ⟨by simp,aI.1⟩ (fun _ _ e=>by cases e),by rw[←au.b];exact aI.2.1,by rw[←au.e];exact aI.2.2⟩;have mu:∀(d:aW Nat) (p:ah) (bw:List (aD×List ah)) (ew:List (aD×fF)) (κ:aD),∀k,fresh n0 (κ::st.o) k→(∀j∈nw,k≠ .obj j)→(A.do ⟨d,p,bw,ew,some κ⟩).F k:=fun d p bw ew κ k ab af=>⟨h.F k (uE k ab).1 af,fun e=>(uE k ab).2 (fw e).symm⟩;have wy:∀(d:aW Nat) (p:ah) (bw:List (aD×List ah)) (ew:List (aD×fF)),∀k,fresh n0 st.o k→(∀j∈nw,k≠ .obj j)→(A.do ⟨d,p,bw,ew,none⟩).F k:=fun d p bw ew k ab af=>⟨h.F k ab af,by simp⟩;have k2:∀d,d<N→∀k∈aD.loc (n0+d)::st.o,k∈oP∨(∃d,d<N∧k= .loc (n0+d))∨ ∃j∈nw,k= .obj j:=fun d aP k ab=>by
  rcases fU.1 ab with rfl|ab
  ·exact .inr (.inl ⟨d,aP,rfl⟩)
  ·exact h.o k ab
 cases i with
 |s i=>
  cases i with
  |v d i=>
   simp only[jX,er]at he;cases aK:gU st i with
   |none=>simp[aK]at he
   |some Hb=>
    obtain⟨c,p⟩:=Hb;simp only[aK]at he;obtain⟨J,U,al⟩:=he;refine⟨⟨some d,p,[],[],none⟩,_,⟨c,p,by rw[←U8 au];exact aK,U,fun ng=>?_,rfl⟩,al,Jm au d p,h.n,wy _ _ _ _,h.o⟩;cases i<;>simp only[fI.isLoad]at ng<;>try(cases ng;done)
    case mget=>exact .inr (.inl J)
    case ment=>exact .inr (.inl J)
    case mlen=>exact .inr (.inl J)
    case loadB=>exact .inl rfl
    case mgetB=>exact .inl rfl
    simp only[ls,fI.loadO,il au]at J;exact .inr (by simpa only[fI.ptrOf]using J)
  |box d key v=>
   cases key with
   |some m=>simp only[jX,er,ls,false_and]at he
   |none=>simp only[jX,er,ls,oz]at he;obtain⟨J,U,al⟩:=he;rw[il au]at U;refine⟨_,_,⟨wG d J,U,rfl⟩,al,?_,h.n,mu _ _ _ _ _,k2 d (aP d rfl)⟩;rw[il au];exact y8 au d _ _ _ _ _ _
  |alloc d key z=>
   cases key with
   |some m=>simp only[jX,er,ls,false_and]at he
   |none=>simp only[jX,er,ls,oz]at he;obtain⟨J,U,al⟩:=he;exact⟨_,_,⟨wG d J,rfl⟩,al,y8 au d _ _ _ _ _ _,h.n,mu _ _ _ _ _,k2 d (aP d rfl)⟩
  |store sz u v=>
   simp only[jX,er]at he;cases hu:cg st.t u with
   |ptr k off=>
    cases ae:look k st.b with
    |none=>simp[hu,ae]at he
    |some cs=>simp only[hu,ae]at he;obtain⟨J,U,al⟩:=he;rw[il au]at U hu;refine⟨⟨none,.junk,[(k,nn cs off (cells (dr A.t v)))],[],none⟩,_,⟨k,off,cs,hu,by rw[←au.b];exact ae,U,rfl⟩,al,?_,h.n,wy _ _ _ _,h.o⟩;rw[il au];exact EJ au k _ _
   |_=>
    exfalso;simp only[hu]at he;split at he
    ·have:=he.1;simp[ls,hu]at this
    ·exact he
  |bsl d sz el xs=>simp only[jX,er,ls,oz]at he;obtain⟨J,U,al⟩:=he;rw[s7 au]at U;refine⟨_,_,⟨wG d J,U,rfl⟩,al,?_,h.n,mu _ _ _ _ _,k2 d (aP d rfl)⟩;rw[s7 au];exact vf au d _ _ _ _ _ _
  |app d sz el u v=>
   simp only[jX,er]at he;cases hu:cg st.t u with
   |slice dy tag xs=>
    cases aK:cg st.t v with
    |slice iO ks ys=>
     simp only[hu,aK]at he;by_cases e4:dy=sz∧iO=sz
     ·obtain⟨rfl,rfl⟩:=e4;rw[il au]at hu aK;cases tag with
      |no=>simp at he
      |tr k j=>simp at he
      |lo k=>simp at he
      |nil=>simp only[and_self,if_true,ls,il au,hu,oz]at he;obtain⟨J,U,al⟩:=he;exact⟨_,_,⟨.nil,xs,ks,ys,hu,aK,.inr ⟨rfl,U,wG d J,rfl⟩⟩,al,vf au d _ _ _ _ _ _,h.n,mu _ _ _ _ _,k2 d (aP d rfl)⟩
      |own k=>
       cases ab:look k st.e with
       |none=>simp[ab]at he
       |some o=>simp only[and_self,if_true,ab]at he;obtain⟨J,U,al⟩:=he;exact⟨_,_,⟨.own k,xs,ks,ys,hu,aK,.inl ⟨k,o,rfl,by rw[←au.e];exact ab,⟨by simpa[ls,il au,hu,ab]using J,U⟩,rfl⟩⟩,al,vf au d _ _ _ _ _ _,h.n,wy _ _ _ _,h.o⟩
     ·simp[e4]at he
    |_=>simp[hu,aK]at he
   |_=>simp[hu]at he
  |bslm d key sz el xs=>simp only[jX,er,ls,false_and]at he
  |mks d key sz el z x=>simp only[jX,er,ls,false_and]at he;split at he<;>simp at he
  |appm d key sz el u v=>
   simp only[jX,er]at he;cases hu:cg st.t u with
   |row dy k n=>
    cases aK:cg st.t v with
    |slice iO ks ys=>
     simp only[hu,aK,rJ]at he;by_cases e4:dy=sz∧iO=sz
     ·obtain⟨rfl,rfl⟩:=e4;rw[il au]at hu aK;simp only[and_self,if_true]at he;cases ab:look k st.e with
      |none=>simp[ab]at he
      |some o=>
       obtain⟨n',fJ,vE,J5⟩:=o;cases J5 with
       |none=>simp[ab]at he
       |some xs=>
        simp only[ab]at he;by_cases wC:n'=n∧fJ=el∧vE=iO
        ·obtain⟨rfl,rfl,rfl⟩:=wC;simp only[and_self,if_true]at he;obtain⟨J,U,al⟩:=he;exact⟨_,_,⟨k,n',xs,ks,ys,hu,aK,by rw[←au.e];exact ab,U,rfl⟩,al,vf au d _ _ _ _ _ _,h.n,wy _ _ _ _,h.o⟩
        ·simp[wC]at he
     ·simp[e4]at he
    |_=>simp[hu,aK,rJ]at he
   |slice dy tag xs=>
    exfalso;simp only[hu]at he;split at he
    ·have:=he.1;simp[ls,hu]at this
    ·exact he
   |_=>simp[hu,rJ]at he
  |storeE sz u v=>
   simp only[jX,er]at he;cases hu:cg st.t u with
   |rptr dy k n i f=>
    cases ab:look k st.e with
    |none=>simp[hu,qj,ab]at he
    |some o=>
     obtain⟨n',el,vE,J5⟩:=o;cases J5 with
     |none=>simp[hu,qj,ab]at he
     |some xs=>
      simp only[hu,qj,ab]at he;by_cases wC:n'=n∧vE=dy
      ·obtain⟨rfl,rfl⟩:=wC;simp only[and_self,if_true]at he;cases bp:xs[i]? with
       |none=>simp[bp]at he
       |some q=>simp only[bp]at he;obtain⟨J,U,al⟩:=he;rw[il au]at U hu;refine⟨⟨none,.junk,[],[(k,⟨n',el,vE,some (xs.set i (l9 q f (cells (dr A.t v))))⟩)],none⟩,_,⟨k,n',i,f,el,vE,xs,q,hu,by rw[←au.e];exact ab,bp,U,rfl⟩,al,?_,h.n,wy _ _ _ _,h.o⟩;rw[il au];exact Sd au k _ _
      ·simp[wC]at he
   |_=>simp[hu,qj]at he
  |mkmap d key=>
   cases key with
   |none=>simp only[jX,er,ls,false_and]at he
   |some m=>
    simp only[jX,er,ls,oz]at he;obtain⟨⟨bs,J,U⟩,_,al⟩:=he;rw[au.b]at J;rw[au.e]at U;refine⟨_,_,⟨⟨nJ m bs J U,J,U⟩,rfl⟩,al,y8 au d _ _ _ _ _ _,h.n,mu _ _ _ _ _,fun k ab=>?_⟩;rcases fU.1 ab with rfl|ab
    ·exact .inr (.inr ⟨m,bs,rfl⟩)
    ·exact h.o k ab
  |mput b7 u k v=>
   simp only[jX,er,ls]at he;cases hu:cg st.t u with
   |gmap m=>
    cases ae:look m st.b with
    |none=>simp[hu,ae]at he
    |some cs=>
     cases hm:nX b7 (cg st.t k) (cg st.t v) cs with
     |none=>simp[hu,ae,hm]at he
     |some cs'=>simp only[hu,ae,hm]at he;rw[il au]at hu;rw[il au,il au]at hm;exact⟨⟨none,.junk,[(m,cs')],[],none⟩,_,⟨m,cs,cs',hu,by rw[←au.b];exact ae,hm,rfl⟩,he.2.2,EJ au m _ _,h.n,wy _ _ _ _,h.o⟩
   |_=>simp[hu]at he
  |range d key x=>simp only[jX,ls,false_and]at he;split at he<;>exact he.elim
 |next d x=>simp only[jX]at he
 |call d f xs=>
  simp only[jX]at he;cases aI:cg st.t f with
  |func n dh=>
   simp only[aI]at he;rw[il au]at aI;rcases he with⟨cD,r,rfl,bE,cc,c8,h4⟩|⟨s,ai,r,rm,bE,cc,c8,h4,lq,ox,Aq,WM,WN⟩
   ·rw[s7 au]at cc c8;have aA:=h.n;subst aA;refine⟨⟨some cD,r,[],[],some (.loc (st.n+cD))⟩,_,⟨n,dh,aI,.inr ⟨cD,r,rfl,wG cD bE,cc,c8,rfl⟩⟩,h4,Se au cD r _ _,rfl,mu _ _ _ _ _,k2 cD (aP cD rfl)⟩
   rw[s7 au]at ox Aq;obtain⟨a8,bU,cj,eB,c5⟩:=lq;refine⟨⟨d,r,ai.b,ai.e,rm⟩,_,⟨n,dh,aI,.inl ⟨⟨s,ai,r,rm,fun k cs ab=>⟨by rw[←au.b];exact(bE k cs ab).1,(bE k cs ab).2.2⟩,fun k o ab=>⟨by rw[←au.e];exact(cc k o ab).1,(cc k o ab).2.2⟩,c8,h4,⟨a8,bU,cj,eB,fun k ab=>?_⟩,ox,Aq,rfl⟩,WM⟩⟩,WN,⟨fun i=>?_,fun k=>?_,fun k=>?_⟩,h.n,fun k ab af=>⟨h.F k ab af,fun pY=>?_⟩,h.o⟩
   ·obtain⟨⟨j,af,rfl⟩,aC,bg,da⟩:=c5 k ab;rw[au.b]at aC;rw[au.e]at bg;exact⟨⟨j,rfl⟩,nJ j af aC bg,aC,bg,da⟩
   ·simp only[after,dc.do];cases d with
    |none=>simpa[eC]using au.t i
    |some d=>simp only[eC,oF,dz,au.t]
   ·simp only[after,dc.do,h5,xc,tH];by_cases ag:(look k s.b).isSome
    ·have:=cj k ag;obtain⟨y,aL⟩:=fE.1 this;simp[ag,aL]
    ·cases aA:look k ai.b with
     |none=>simp only[ag,au.b];cases A.b k<;>simp
     |some y=>
      rcases a8 k (by simp[aA])with h|h
      ·exact absurd h ag
      ·have:=c5 k h;simp[ag,this]
   ·simp only[after,dc.do,h5,xc,tH];by_cases ag:(look k s.e).isSome
    ·have:=eB k ag;obtain⟨y,aL⟩:=fE.1 this;simp[ag,aL]
    ·cases aA:look k ai.e with
     |none=>simp only[ag,au.e];cases A.e k<;>simp
     |some y=>
      rcases bU k (by simp[aA])with h|h
      ·exact absurd h ag
      ·have:=c5 k h;simp[ag,this]
   ·obtain⟨⟨j,iU,rfl⟩,_⟩:=c5 k pY;exact af j iU rfl
  |_=>simp[aI]at he
def yf(N:Nat):List cY→Bool
 |[]=>true
 |g::r=>iS N g.i.dst&&yf N r
def xU:Nat→List cY→List (Nat×cY)
 |_,[]=>[]
 |k,g::r=>(k,g)::xU (k+1) r
theorem L6{nw:List Nat}{n0 N:Nat}{oP:List aD}{st:bo}{A:dc}(h:rE nw n0 N oP st A){s:Nat}{p:ah}(ag:get s st.t=p):rE nw n0 N oP {st with t:=put s p st.t} A:=by
 refine⟨⟨fun i=>?_,h.like.b,h.like.e⟩,h.n,h.F,h.o⟩;simp only[oF];split
 ·rename_i e;subst e;rw[←ag];exact h.like.t _
 ·exact h.like.t i
theorem L7{nw:List Nat}{n0 N:Nat}{oP:List aD}{st:bo}{A:dc}(h:rE nw n0 N oP st A)(d:aW Nat):rE nw n0 N oP {st with t:=eC d (.tuple []) st.t} (A.do (kM d)):=by
 refine⟨⟨fun i=>?_,fun k=>?_,fun k=>?_⟩,h.n,fun k ab af=>⟨h.F k ab af,by simp[kM]⟩,h.o⟩
 ·simp only[dc.do,kM];cases d with
  |none=>simpa[eC]using h.like.t i
  |some d=>simp only[eC,oF,dz,h.like.t]
 ·simpa[dc.do,h5,look,kM]using h.like.b k
 ·simpa[dc.do,h5,look,kM]using h.like.e k
theorem AA{P:cy}{q:Bool}{nw:List Nat}{n0 N:Nat}{oP:List aD}{K:bo→Prop}:∀(gs:List cY) (k:Nat),yf N gs=true→∀(st:bo) (A:dc),rE nw n0 N oP st A→Ac nw A→hA P q nw n0 gs st K→uy P q n0 (fun fV=> ∃st',K st'∧rE nw n0 N oP st' fV) (xU k gs) A
 |[],k,_,st,A,h,_,he=>⟨st,he,h⟩
 |⟨mr,i⟩::r,k,aP,st,A,h,nJ,he=>by
  simp only[yf,cA]at aP;have rW:∀d,i.dst=some d→d<N:=fun d e=>by have:=aP.1;rw[e]at this;simpa[iS]using this
  simp only[xU,uy];cases mr with
  |none=>simp only[hA]at he;obtain⟨x,st',J,U,al⟩:=O2 rW h nJ he;have a1:kk P q n0 ⟨none,i⟩ A x:=J;exact⟨x,a1,AA r (k+1) aP.2 st' _ al (nJ.do a1) U⟩
  |some xK=>
   obtain⟨s,want⟩:=xK;simp only[hA]at he;split at he
   ·rename_i b ae;by_cases e:b=want
    ·subst e;obtain⟨x,st',J,U,al⟩:=O2 rW (L6 h ae) nJ (he.1 rfl);have a1:kk P q n0 ⟨some (s,b),i⟩ A x:=by unfold kk;simp only[←h.like.t,ae];exact .inl ⟨trivial,J⟩
     exact⟨x,a1,AA r (k+1) aP.2 st' _ al (nJ.do a1) U⟩
    ·have fL:b= !want:=by cases b<;>cases want<;>simp at e⊢
     subst fL;have a1:kk P q n0 ⟨some (s,want),i⟩ A (kM i.dst):=by unfold kk;simp only[←h.like.t,ae];exact .inr ⟨trivial,trivial⟩
     exact⟨kM i.dst,a1,AA r (k+1) aP.2 _ _ (L7 (L6 h ae) i.dst) (nJ.do a1) (he.2 rfl)⟩
   ·rename_i ae;have a1:kk P q n0 ⟨some (s,want),i⟩ A (kM i.dst):=by unfold kk;simp only[←h.like.t,ae]
    exact⟨kM i.dst,a1,AA r (k+1) aP.2 _ _ (L7 h i.dst) (nJ.do a1) he⟩
   ·exact he.elim
theorem KF:∀(gs:List cY) (l:Array Bool) (k:Nat),(∀j,l.getD j false=false)→rem l k gs=xU k gs
 |[],_,_,_=>rfl
 |g::r,l,k,h=>by simp only[rem,h k,xU,KF r l (k+1) h];simp
def sJ(n:Nat)(o:List aD)(K:bo→Prop)(st:bo):Prop:=K {st with n:=n,o:=o}
theorem Good.like{pr:Nat→Prop}{w:World}{ν:bc}{b bY:List (aD×List ah)}{e fB:List (aD×fF)}(h:Good pr w ν b e)(ae:∀k,look k bY=look k b)(he:∀k,look k fB=look k e):Good pr w ν bY fB:=
 ⟨h.alt,fun k cs ab=>h.box k cs (by rw[←ae];exact ab),fun k bH bl J U=>h.inj k bH bl (by rw[←ae];exact J) (by rw[←ae];exact U),fun g o a1=>h.own g o (by rw[←he];exact a1),
  fun g e8 n n' v v' bl J U=>h.oinj g e8 n n' v v' bl (by rw[←he];exact J) (by rw[←he];exact U),fun g k n v bl J U=>h.obx g k n v bl (by rw[←he];exact J) (by rw[←ae];exact U),h.one,
  fun bl aO=>h.otr bl (aO.imp (fun⟨k,bz,a2⟩=>⟨k,by rw[←ae];exact bz,a2⟩) (fun⟨g,n,v,bz,a2⟩=>⟨g,n,v,by rw[←he];exact bz,a2⟩))⟩
theorem O4{P:cy}(hm:P.follows .mixedOrders=true){bt:List (Nat×dB)}(aO:fN P bt=true){C:e7}{q:Bool}{nw:List Nat}{id:Nat}{ops:Array Oper}{gs:List cY}(j2:jZ C.N bt ops.toList gs ops.toList=true)(DS:Aj gs ops.toList=true)(im:yf C.N gs=true)
  {K:bo→Prop} {Q:Exit→Act→World→Prop} (ht:∀st' bj w' bn,K st'→cJ C st' bj w' bn→Q .normal bj w') {st:bo} {a:Act} {w:World} {ν:bc} (acJ:∀j∈nw,.obj j∉st.o) (he:hA P q nw st.n gs st (sJ (st.n+C.N) (nw.map aD.obj++st.o) K)) (aJ:cJ C st a w ν):(Code.region id ops true).wp P Q a w:=by
 refine wp_region_any hm ?_;have dx:cJ C st a {w with drawn:=w.drawn+1} ν:=aJ.drawn _;let A:dc:=⟨fun i=>get i st.t,fun k=>look k st.b,fun k=>look k st.e,fresh st.n st.o⟩
 have qJ:rE nw st.n C.N st.o st A:=⟨⟨fun _=>rfl,fun _=>rfl,fun _=>rfl⟩,rfl,fun k ab _=>ab,fun k ab=>.inl ab⟩;have rV:=AA gs 0 im st A qJ (fun j af _ _=>⟨trivial,acJ j af⟩) he;have nO:∀j,(Array.replicate ops.size false).getD j false=false:=fun j=>by simp[Array.getD_eq_getD_getElem?,Array.getElem?_replicate];split<;>rfl
 refine Wm aO j2 DS (q:=q) (n0:=st.n) (K:=fun fV=> ∃st',sJ (st.n+C.N) (nw.map aD.obj++st.o) K st'∧rE nw st.n C.N st.o st' fV) ?_ ops.size _ A a _ (by simp) ?_ ?_ (by rw[KF gs _ 0 nO];exact rV) ⟨st,ν,qJ.like,fun k ab=>ab,dx⟩
 ·rintro fV bj w' ⟨st',ab,bD⟩ ⟨ao5,bn,nN,AS,lW⟩;refine ht _ bj w' bn ab ⟨lW.good.like (fun k=>by rw[nN.b,←bD.like.b]) (fun k=>by rw[nN.e,←bD.like.e]),lW.fr,lW.defers,lW.size,fun i=>?_,fun k yH=>?_⟩
  ·have:=lW.slot i;rw[nN.t,←bD.like.t]at this;exact this
  ·refine lW.new k (AS k (bD.F k ?_ fun j af e=>yH.2 (by subst e;exact List.mem_append_left _ (List.mem_map_of_mem af))));simp only at yH;refine⟨(HI (Nat.le_add_right st.n C.N) (fun _ h=>h) yH).1,fun ji=>?_⟩;rcases bD.o k ji with h|⟨d,aP,rfl⟩|⟨j,af,rfl⟩;rotate_left 2
   ·exact yH.2 (List.mem_append_left _ (List.mem_map_of_mem af))
   ·exact yH.2 (List.mem_append_right _ h)
   ·have:=yH.1;simp at this;omega
 ·intro k o ab au;rw[nO]at au;cases au
 ·rw[KF gs _ 0 nO];have:∀(gs:List cY) k,(xU k gs).length=gs.length:=by
   intro gs;induction gs with
   |nil=>intro k;rfl
   |cons g r bM=>intro k;simp[xU,bM]
  rw[this];have:=HU j2;simp at this;omega
def eu:List ah→Prop
 |[]=>True
 |p::cm=>(match p with| .slice _ _ xs=>xs.length≤lim| .str s=>s.length≤lim|_=>True)∧eu cm
def ej:ah→Prop
 | .slice _ _ xs=>xs.length≤lim
 | .str s=>s.length≤lim
 | .agg cs=>eu cs
 |_=>True
def eE:List ah→Prop
 |[]=>True
 |p::r=>ej p∧eE r
theorem KI{w:World}{ν:bc}:∀{cs:List ah} {us:List Value},c0 w ν cs us→eu cs
 |[],_,_=>trivial
 |c::cs,us,h=>by
  simp only[c0]at h;obtain⟨u,cb,_,J,U⟩:=h;refine⟨?_,KI U⟩;cases c<;>simp only<;>have al:=J.1<;>simp only[a7]at al
  ·exact al.2
  ·obtain⟨⟨a,cap,_,_,a6,_⟩,_⟩:=al;exact a6.2
theorem T9{w:World}{ν:bc}{cs:List ah}{us:List Value}(h:iM w ν cs us):hF cs=true→eu cs:=fun bF=>by rw[tO bF]at h;exact KI h
theorem Ul{w:World}{ν:bc}{p:ah}{v:Value}(h:a7 w ν p v):ej p:=by
 cases p<;>simp only[ej]<;>simp only[a7]at h
 ·exact h.2
 ·obtain⟨⟨a,cap,_,_,a6,_⟩,_⟩:=h;exact a6.2
 ·obtain⟨us,_,U⟩:=h;exact KI U
theorem Uj{w:World}{ν:bc}:∀{cs:List ah} {us:List Value},cH w ν cs us→eE cs
 |[],_,_=>trivial
 |c::cs,us,h=>by simp only[cH]at h;obtain⟨u,cb,_,J,U⟩:=h;exact⟨Ul J,Uj U⟩
inductive C where
 |skip
 |region (gs:List cY)
 |drawn (q:Bool) (N:Nat) (gs:List cY)
 |drawnW (nw:List Nat) (N:Nat) (gs:List cY)
 |seq (a b:C)
 |cond (x:dk) (t e:C)
 |block (id:Nat) (c:C)
 |loop (c:C)
 |exit (id:Nat)
 |ret
 |pub (s:Nat) (c:C)
 |pubB (s:Nat) (c:C)
 |fg (oM:Bool) (s:Nat) (c:C)
 |fz (agg:Bool) (s:Nat) (c:C)
 |no
def Cc(st:bo):ah→aW (ah×List (aD×fF))
 | .row sz k n=>match look k st.e with
  |some ⟨n',el,dy,some xs⟩=>if n'=n∧dy=sz then some (.slice sz (.own k) xs,cw k ⟨n,el,sz,none⟩ st.e)else none
  |_=>none
 |_=>none
def vs(st:bo)(s:Nat):aW bo:=
 match Cc st (get s st.t)with
 |some (p,e)=>some {st with t:=put s p st.t,e:=e}
 |none=>none
def vr(st:bo)(s:Nat):aW bo:=
 match get (s%1000) st.t with
 | .ptr k off=>match look k st.b with
  |some cs=>match cs[off+s/1000]? with
   |some p=>match Cc st p with
    |some (zr,e)=>if hF cs then some {st with b:=cw k (cs.set (off+s/1000) zr) st.b,e:=e}else none
    |none=>none
   |none=>none
  |none=>none
 |_=>none
theorem KE{C:e7}{st:bo}{a:Act}{w:World}{ν:bc}(h:cJ C st a w ν){s:Nat}{p:ah}(ag:a7 w ν p (a.tmps.getD s undef)):cJ C {st with t:=put s p st.t} a w ν:=by
 refine⟨h.good,h.fr,h.defers,h.size,fun i=>?_,h.new⟩;have:=h.slot i;simp only[oF];split
 ·rename_i e;subst e;exact ag
 ·exact this
theorem Tj{C:e7}{st:bo}{a:Act}{w:World}{ν:bc}(h:cJ C st a w ν){p zr:ah}{e:List (aD×fF)}{v:Value}(bF:a7 w ν p v)(he:Cc st p=some (zr,e)):
  ∃bn,cJ C {st with e:=e} a w bn∧a7 w bn zr v∧kT w ν w bn:=by
 unfold Cc at he;split at he
 ·rename_i sz k n;split at he
  ·rename_i n' el dy xs ab;split at he
   ·rename_i aw;obtain⟨rfl,rfl⟩:=aw;cases he;simp only[a7]at bF;obtain⟨_,au,n0,u,J,U,al⟩:=bF;obtain⟨v0,fm,aZ,bB,bQ,cS⟩:=h.good.own k _ ab;rw[J]at aZ;simp only[dz,jb]at aZ;obtain⟨rfl,rfl⟩:=aZ;have aK:v=u:=al rfl;subst aK;obtain⟨c6,_,_⟩:=cS xs rfl;simp only at c6;obtain⟨g1,g2⟩:=h.publish ab rfl J (by rw[c6];exact au);refine⟨_,g1,g2,⟨fun b o bd=>⟨.inl bd,rfl⟩,fun j b _ af=>af,fun g n u _ iq=>⟨n,u,?_,.inl ⟨rfl,rfl⟩⟩,fun _ _ _=>rfl,fun _ _ _ _ h=>h⟩⟩;simp only[bc.withRowOf];split
    ·rename_i e;subst e;rw[J]at iq;exact iq
    ·exact iq
   ·cases he
  ·cases he
 ·cases he
def yl(oM:Bool):ah→ah
 | .slice sz tag xs=>.slice sz (if oM then tag else .no) (cU xs)
 |p=>dn p
theorem aaw{w:World}{ν:bc}{oM:Bool}{p:ah}{v:Value}(h:a7 w ν p v):a7 w ν (yl oM p) v:=by
 have J:=xA p v h;cases p with
 |slice sz tag xs=>
  simp only[yl];cases oM with
  |false=>simpa only[gI,if_false,dn]using J
  |true=>
   simp only[if_true];simp only[a7,dn]at h J⊢;refine⟨J.1,fun e=>h.2.1 e,fun g e=>?_,fun k j e=>?_,fun k e=>?_⟩
   ·obtain⟨n,u,aj,aC,bg⟩:=h.2.2.1 g e;exact⟨n,u,aj,by rw[ud];exact aC,by rw[ud];exact bg⟩
   ·exact PC _ _ (h.2.2.2.1 k j e)
   ·exact PC _ _ (h.2.2.2.2 k e)
 |_=>exact J
theorem ag6{C:e7}{st st':bo}{a:Act}{w:World}{ν:bc}(h:cJ C st a w ν){s:Nat}(he:vs st s=some st'):∃bn,cJ C st' a w bn:=by
 unfold vs at he;split at he
 ·rename_i p e bF;cases he;obtain⟨bn,J,U,_⟩:=Tj h (h.slot s) bF;exact⟨_,KE J U⟩
 ·cases he
theorem Ug{w:World}{ν:bc}:∀{cs:List ah} {us:List Value} {i:Nat} {p q:ah} {v:Value},c0 w ν cs us→cs[i]? =some p→us[i]? =some v→a7 w ν q v→c0 w ν (cs.set i q) us
 |[],_,_,_,_,_,_,h,_,_=>by simp at h
 |c::cs,us,0,p,q,v,h,_,aK,bp=>by simp only[c0]at h;obtain⟨u,cb,rfl,J,U⟩:=h;simp only[List.getElem?_cons_zero,dz]at aK;subst aK;simp only[List.set_cons_zero,c0];exact⟨_,_,rfl,⟨bp,J.2⟩,U⟩
 |c::cs,us,i+1,p,q,v,h,bF,aK,bp=>by simp only[c0]at h;obtain⟨u,cb,rfl,J,U⟩:=h;simp only[List.set_cons_succ,c0];exact⟨_,_,rfl,J,Ug U (by simpa using bF) (by simpa using aK) bp⟩
theorem ag5{C:e7}{st st':bo}{a:Act}{w:World}{ν:bc}(h:cJ C st a w ν){s:Nat}(he:vr st s=some st'):∃bn,cJ C st' a w bn:=by
 unfold vr at he;split at he
 ·rename_i k ae3 ab;generalize ae3+s/1000=off at he;split at he
  ·rename_i cs dj;split at he
   ·rename_i p bF;split at he
    ·rename_i zr e Ec;split at he
     ·rename_i r5;cases he;obtain⟨bl,us,el,g1,g2,g3,g4,g5⟩:=h.good.box k cs dj;rw[tO r5]at g5;have bu:off<us.toList.length:=by rw[oR g5];exact(fH.1 bF).1
      obtain⟨v,aK⟩:∃v,us.toList[off]? =some v:=⟨_,ca bu⟩;have yP:a7 w ν p v:=by have:=zG off g5;rw[kQ (fH.1 bF).1,kQ bu]at this;simp only[c0]at this;obtain⟨u,cb,aj,aC,_⟩:=this;rw[(fH.1 bF).2]at aC;rw[(fH.1 aK).2]at aj;cases aj;exact aC.1
      obtain⟨bn,J,U,al⟩:=Tj h yP Ec;have uY:c0 w bn (cs.set off zr) us.toList:=Ug (Uf al g5) bF aK U;have QQ:=zI uY;refine⟨bn,⟨J.good.alt,fun j ey af=>?_,fun j du b af iU=>J.good.inj j du b ?_ ?_,J.good.own,J.good.oinj,fun g j n v b a1 af=>J.good.obx g j n v b a1 ?_,J.good.one,fun bl ae=>J.good.otr bl (ae.imp (fun⟨bH,bz,a2⟩=>⟨bH,by rw[iw]at bz;split at bz;(rename_i e;subst e;simp[dj]);exact bz,a2⟩) id)⟩,J.fr,J.defers,J.size,J.slot,J.new⟩
      ·simp only at af;rw[iw]at af;split at af
       ·rename_i e;subst e;cases af;obtain⟨h3,cb,fJ,f1,f2,f3,f4,f5⟩:=J.good.box k cs dj;have:h3=bl:=by have:=al.bx k bl trivial g1;rw[this]at f1;cases f1;rfl
        subst this;rw[tN r5]at g4 f4;rw[g4]at f4;injection f4 with f4;injection f4 with f4 f6 f7;refine⟨h3,us,el,f1,f2,f3,by rw[tN QQ];exact g4,by rw[tO QQ];exact uY⟩
       ·exact J.good.box j ey af
      ·simp only at af;rw[iw]at af;split at af
       ·rename_i e;subst e;simp[dj]
       ·exact af
      ·simp only at iU;rw[iw]at iU;split at iU
       ·rename_i e;subst e;simp[dj]
       ·exact iU
      ·simp only at af;rw[iw]at af;split at af
       ·rename_i e;subst e;simp[dj]
       ·exact af
     ·cases he
    ·cases he
   ·cases he
  ·cases he
 ·cases he
def rM{α:Type}(k:aD)(l:List (aD×α)):List (aD×α):=match l with
 |[]=>[]
 |(i,x)::r=>if i=k then rM k r else(i,x)::rM k r
theorem Jn{α:Type}(k j:aD):∀l:List (aD×α),look j (rM k l)=if j=k then none else look j l
 |[]=>by simp[rM,look]
 |(i,x)::r=>by
  simp only[rM];by_cases h:i=k
  ·subst h;rw[if_pos rfl,Jn i j r];by_cases U:j=i
   ·simp[U]
   ·have:¬i=j:=fun e=>U e.symm;simp[look,U,this]
  ·rw[if_neg h];simp only[look];by_cases U:i=j
   ·subst U;simp[h]
   ·simp only[U,if_false];exact Jn k j r
def HL(agg:Bool):List ah→aW ah
 |[p]=>if agg then some (.agg [p])else some p
 |cs=>if agg then some (.agg cs)else none
def uF(st:bo)(agg:Bool)(s:Nat):aW bo:=
 match get s st.t with
 | .ptr k 0=>match look k st.b with
  |some cs=>if hF cs then match HL agg cs with
    |some x=>some {st with t:=put s (.eptr x) st.t,b:=rM k st.b}
    |none=>none
   else none
  |none=>none
 |_=>none
theorem agT{u:Value}(h:u.oneCell'=true):u.cells.toList=[u]:=by cases u<;>first|rfl|(simp[Value.oneCell']at h)
theorem R4{w:World}{A:Nat→Nat→Prop}{b:Nat}{us:Array Value}{el:fT}(ae:w.heap[b]? =some (.cells us el))(bd:∀o,o<us.size→A b o):∀(ba:List Value) (off:Nat),us.toList.drop off=ba→k8 w A b off ba
 |[],_,_=>trivial
 |v::ba,off,h=>by
  have bu:off<us.toList.length:=by
   rcases Nat.lt_or_ge off us.toList.length with J|J
   ·exact J
   ·rw[List.drop_eq_nil_of_le J]at h;cases h
  have U:=kQ bu;rw[h]at U;injection U with U al;refine⟨⟨bd off (by simpa using bu),?_⟩,R4 ae bd ba (off+1) al.symm⟩;have uT:off<us.size:=by simpa using bu
  simp only[World.cell?,ae,lK,gI,if_false];rw[U];simp[uT]
theorem aaJ{C:e7}{st st':bo}{a:Act}{w:World}{ν:bc}(h:cJ C st a w ν){agg:Bool}{s:Nat}(he:uF st agg s=some st'):∃bn,cJ C st' a w bn:=by
 unfold uF at he;split at he
 ·rename_i k ab;split at he
  ·rename_i cs dj;split at he
   ·rename_i r5;split at he
    ·rename_i x ad;cases he;obtain⟨bl,us,el,g1,g2,g3,g4,g5⟩:=h.good.box k cs dj;rw[tO r5]at g5;rw[tN r5]at g4;have bu:bl<w.heap.size:=by
      rcases Nat.lt_or_ge bl w.heap.size with J|J
      ·exact J
      ·rw[Array.getElem?_eq_none J]at g4;cases g4
     let bn:bc:={ν with A:=fun b o=>ν.A b o∨(b=bl∧o<us.size)}
     have av:kT w ν w bn:=⟨fun b o bd=>⟨.inl bd,rfl⟩,fun j b _ af=>af,fun g n u _ iq=>⟨n,u,iq,.inl ⟨rfl,rfl⟩⟩,fun _ _ _=>rfl,fun _ _ _ _ h=>h⟩;have hL:∀j ey,look j (rM k st.b)=some ey→j≠k∧look j st.b=some ey:=fun j ey af=>by
      rw[Jn]at af;split at af
      ·cases af
      ·rename_i e;exact⟨e,af⟩
     have D5:∀j,(look j (rM k st.b)).isSome→(look j st.b).isSome:=fun j af=>by obtain⟨ey,im⟩:=fE.1 af;simp[(hL j ey im).2]
     have p0:∀(g:aD) (n:Nat) (v:Value),(look g st.e).isSome→ν.ow g=some (n,v)→v.ownBlock=some bl→eI:=fun g n v J U al=>h.good.obx g k n v bl J (by simp[dj]) U al g1;have mE:a7 w bn (.eptr x) (a.tmps.getD s undef):=by
      have ag:=h.slot s;rw[ab]at ag;simp only[a7]at ag⊢;obtain⟨bY,aZ,bB⟩:=ag;rw[g1]at aZ;cases aZ;have au:k8 w bn.A bl 0 us.toList:=R4 g4 (fun o av=>.inr ⟨rfl,av⟩) _ 0 rfl;have g6:c0 w bn cs us.toList:=Uf av g5;unfold HL at ad;split at ad
      ·rename_i p;simp only[c0]at g6;obtain⟨u,cb,aj,aC,bg⟩:=g6;subst bg;split at ad
       ·cases ad;exact⟨bl,0,.agg us,bB,by simp only[a7];exact⟨us,rfl,by rw[aj];simp only[c0];exact⟨u,[],rfl,aC,rfl⟩⟩,by simpa[oU]using au⟩
       ·cases ad;refine⟨bl,0,u,bB,aC.1,?_⟩;rw[agT aC.2,←aj];exact au
      ·split at ad
       ·cases ad;exact⟨bl,0,.agg us,bB,by simp only[a7];exact⟨us,rfl,g6⟩,by simpa[oU]using au⟩
       ·cases ad
     refine⟨bn,KE (ν:=bn) (st:={st with b:=rM k st.b}) ⟨⟨fun b o bd=>?_,fun j ey af=>?_,fun j du b J U=>h.good.inj j du b (D5 j J) (D5 du U),fun g o a1=>?_,h.good.oinj,fun g j n v b J U=>h.good.obx g j n v b J (D5 j U),h.good.one,fun b aO=>h.good.otr b (aO.imp (fun⟨j,bz,a2⟩=>⟨j,D5 j bz,a2⟩) id)⟩,⟨h.fr.os,h.fr.tape,h.fr.output,h.fr.size,h.fr.block,fun b o bd=>⟨.inl (h.fr.keep b o bd).1,(h.fr.keep b o bd).2⟩,fun b o bd=>?_,h.fr.obj,h.fr.obn,h.fr.row,h.fr.obr,h.fr.trd,h.fr.trb,h.fr.trn,h.fr.sh⟩,h.defers,h.size,fun i=>xz av (h.slot i),h.new⟩ mE⟩
     ·rcases bd with bd|⟨rfl,_⟩
      ·exact h.good.alt b o bd
      ·exact bu
     ·obtain⟨cC,iU⟩:=hL j ey af;obtain⟨h3,cb,fJ,f1,f2,f3,f4,f5⟩:=h.good.box j ey iU;refine⟨h3,cb,fJ,f1,f2,fun o bd=>?_,f4,pB av f5⟩;rcases bd with bd|⟨rfl,_⟩
      ·exact f3 o bd
      ·exact cC (h.good.inj j k _ (by simp[iU]) (by simp[dj]) f1 g1)
     ·obtain⟨v0,fm,aj,aC,bg,da⟩:=h.good.own g o a1;have uI:∀b,v0.ownBlock=some b→∀j,bn.A b j→ν.A b j:=fun b ae j bd=>by
       rcases bd with bd|⟨rfl,_⟩
       ·exact bd
       ·exact(p0 g _ v0 (by simp[a1]) aj ae).elim
      exact⟨v0,fm,aj,aC,fun b ae=>⟨(bg b ae).1,fun j bd=>(bg b ae).2 j (uI b ae j bd)⟩,rj av uI da⟩
     ·rcases bd with bd|⟨rfl,_⟩
      ·exact h.fr.fresh b o bd
      ·exact .inr g2
    ·cases he
   ·cases he
  ·cases he
 ·cases he
def ri(st:bo)(x:dk)(b:Bool):bo:=match x with
 | .t i=>{st with t:=put i (.bool b) st.t}
 | .c _=>st
def cR(P:cy)(ob:List aD):C→(Exit→bo→Prop)→bo→Prop
 | .skip,Q,st=>Q .normal st
 | .region gs,Q,st=>hJ P gs st (Q .normal)
 | .drawn q N gs,Q,st=>hA P q [] st.n gs st (sJ (st.n+N) st.o (Q .normal))
 | .drawnW nw N gs,Q,st=>(∀j∈nw,.obj j∉st.o)∧hA P false nw st.n gs st (sJ (st.n+N) (nw.map aD.obj++st.o) (Q .normal))
 | .seq a b,Q,st=>cR P ob a (fun e st'=>match e with| .normal=>cR P ob b Q st'|e=>Q e st') st
 | .cond x t e,Q,st=>match cg st.t x with
  | .bool b=>(b=true→cR P ob t Q (ri st x true))∧(b=false→cR P ob e Q (ri st x false))
  |_=>eI
 | .block id c,Q,st=>cR P ob c (fun e st'=>match e with| .exit j=>if j=id then Q .normal st' else Q (.exit j) st'|e=>Q e st') st
 | .loop c,Q,st=> ∃(gK:Nat→bo→Prop) (m:Nat) (vC:bo),ig ob st vC∧gK m vC∧
   ∀k s,gK k s→(∀i,ej (get i s.t))→(∀j cs,look j s.b=some cs→hF cs=true→eu cs)→cR P ob c (fun e ai=>match e with| .normal=> ∃bH n1,bH<k∧ig ob ai n1∧gK bH n1|e=>Q e ai) s
 | .exit id,Q,st=>Q (.exit id) st
 | .ret,Q,st=>Q .ret st
 | .pub s c,Q,st=>match vs st s with
  |some st'=>cR P ob c Q st'
  |none=>eI
 | .pubB s c,Q,st=>match vr st s with
  |some st'=>cR P ob c Q st'
  |none=>eI
 | .fg oM s c,Q,st=>cR P ob c Q {st with t:=put s (yl oM (get s st.t)) st.t}
 | .fz eW s c,Q,st=>match uF st eW s with
  |some st'=>cR P ob c Q st'
  |none=>eI
 | .no,_,_=>eI
def hh(N:Nat)(bt:List (Nat×dB)):C→Code→Bool
 | .skip,.skip=>true
 | .region gs,.region _ ops false=>jZ N bt ops.toList gs ops.toList
 | .drawn _ N' gs,.region _ ops true=>N'==N&&jZ N bt ops.toList gs ops.toList&&Aj gs ops.toList&&yf N gs
 | .drawnW _ N' gs,.region _ ops true=>N'==N&&jZ N bt ops.toList gs ops.toList&&Aj gs ops.toList&&yf N gs
 | .seq a b,.seq x y=>hh N bt a x&&hh N bt b y
 | .cond x t e,.cond o dD fB=>dY x o&&hh N bt t dD&&hh N bt e fB
 | .block id c,.block By ch=>id==By&&hh N bt c ch
 | .loop c,.loop ch=>hh N bt c ch
 | .exit id,.exit By=>id==By
 | .ret,.ret=>true
 | .pub _ c,ch=>hh N bt c ch
 | .pubB _ c,ch=>hh N bt c ch
 | .fg _ _ c,ch=>hh N bt c ch
 | .fz _ _ c,ch=>hh N bt c ch
 | .no,_=>true
 |_,_=>false
theorem PY{N:Nat}{bt:List (Nat×dB)}{ops:List Oper}:∀{gs:List cY} {os:List Oper},jZ N bt ops gs os=true→gs.length=os.length
 |[],[],_=>rfl
 |[],_::_,h=>by simp[jZ]at h
 |_::_,[],h=>by simp[jZ]at h
 |g::gs,o::os,h=>by simp only[jZ,cA]at h;simp[PY h.2]
def VW(P:cy)(C:e7)(c:Code)(Q:Exit→bo→Prop)(st:bo):Prop:= ∀a w ν,cJ C st a w ν→c.wp P (fun e bj w'=> ∃st' bn,Q e st'∧cJ C st' bj w' bn) a w
theorem qz{P:cy}(hm:P.follows .mixedOrders=true){bt:List (Nat×dB)}(aO:fN P bt=true){X:e7}:∀(c:C) (code:Code) (Q:Exit→bo→Prop) (st:bo),hh X.N bt c code=true→cR P X.ob c Q st→VW P X code Q st
 | .skip,code,Q,st,av,he=>by
  cases code<;>simp only[hh]at av<;>try cases av
  intro a w ν aJ;exact wp_skip ⟨st,ν,he,aJ⟩
 | .region gs,code,Q,st,av,he=>by
  cases code<;>try(simp[hh]at av;done)
  rename_i id ops draw;cases draw<;>simp only[hh]at av
  ·intro a w ν aJ;refine wp_region ?_;have au:gs.length=ops.size:=by simpa using PY av
   rw[List.range_eq_range',←au];exact O5 aO (K:=Q .normal) (fun st' bj w' bn J U=>⟨st',bn,J,U⟩) gs ops.toList 0 (by simp) av st a w ν he aJ
  ·cases av
 | .drawn q N gs,code,Q,st,av,he=>by
  cases code<;>try(simp[hh]at av;done)
  rename_i id ops draw;cases draw<;>simp only[hh]at av
  ·cases av
  ·simp only[cA,dG]at av;obtain⟨⟨⟨rfl,J⟩,U⟩,al⟩:=av;intro a w ν aJ;exact O4 hm aO J U al (nw:=[]) (K:=Q .normal) (fun st' bj w' bn J U=>⟨st',bn,J,U⟩) (by simp) he aJ
 | .drawnW nw N gs,code,Q,st,av,he=>by
  cases code<;>try(simp[hh]at av;done)
  rename_i id ops draw;cases draw<;>simp only[hh]at av
  ·cases av
  ·simp only[cA,dG]at av;obtain⟨⟨⟨rfl,J⟩,U⟩,al⟩:=av;intro a w ν aJ;exact O4 hm aO J U al (nw:=nw) (K:=Q .normal) (fun st' bj w' bn J U=>⟨st',bn,J,U⟩) he.1 he.2 aJ
 | .seq x y,code,Q,st,av,he=>by
  cases code<;>try(simp[hh]at av;done)
  rename_i oy kV;simp only[hh,cA]at av;intro a w ν aJ;refine wp_seq ?_;have J:=qz hm aO x oy _ st av.1 he a w ν aJ;refine wp_mono J fun e bj w' cI=>?_;obtain⟨st',bn,bp,dx⟩:=cI;cases e with
  |normal=>exact qz hm aO y kV Q st' av.2 bp bj w' bn dx
  |_=>exact⟨st',bn,bp,dx⟩
 | .cond x t e,code,Q,st,av,he=>by
  cases code<;>try(simp[hh]at av;done)
  rename_i o XA ce;simp only[hh,cA]at av;intro a w ν aJ;simp only[cR]at he;have ad:=dZ aJ av.1.1;split at he
  ·rename_i b ae;rw[ae]at ad;simp only[a7]at ad;have Bp:cJ X (ri st x b) a w ν:=by
    unfold ri;split
    ·exact KD aJ (by simpa[cg]using ae)
    ·exact aJ
   refine wp_cond ad ?_;cases b
   ·exact qz hm aO e ce Q _ av.2 (he.2 rfl) a w ν Bp
   ·exact qz hm aO t XA Q _ av.1.2 (he.1 rfl) a w ν Bp
  ·exact he.elim
 | .block id c,code,Q,st,av,he=>by
  cases code<;>try(simp[hh]at av;done)
  rename_i By ch;simp only[hh,cA,dG]at av;obtain⟨rfl,av⟩:=av;intro a w ν aJ;refine wp_block ?_;refine wp_mono (qz hm aO c ch _ st av he a w ν aJ) fun e bj w' cI=>?_;obtain⟨st',bn,bp,dx⟩:=cI;cases e with
  |exit j=>
   simp only[Exit.inBlock]at bp⊢;by_cases af:j=id
   ·rw[if_pos af]at bp⊢;exact⟨st',bn,bp,dx⟩
   ·rw[if_neg af]at bp⊢;exact⟨st',bn,bp,dx⟩
  |_=>exact⟨st',bn,bp,dx⟩
 | .loop c,code,Q,st,av,he=>by
  cases code<;>try(simp[hh]at av;done)
  rename_i ch;simp only[hh]at av;intro a w ν aJ;simp only[cR]at he;obtain⟨gK,m,vC,hw,hi,jk⟩:=he;refine wp_loop_ghost (fun k a w=> ∃s ν,gK k s∧cJ X s a w ν) m ⟨vC,_,hi,aJ.weaker hw⟩ ?_;intro k a w abE;obtain⟨s,ν,ag,Bq⟩:=abE;have J:=jk k s ag (fun i=>Ul (Bq.slot i)) (fun j cs af=>by obtain⟨bl,us,el,_,_,_,_,g5⟩:=Bq.good.box j cs af;exact T9 g5);refine wp_mono (qz hm aO c ch _ s av J a w ν Bq) fun e bj w' cI=>?_;obtain⟨st',bn,bp,dx⟩:=cI;cases e with
  |normal=>obtain⟨bH,n1,aj,aC,bg⟩:=bp;exact⟨bH,aj,n1,_,bg,dx.weaker aC⟩
  |_=>exact⟨st',bn,bp,dx⟩
 | .exit id,code,Q,st,av,he=>by
  cases code<;>try(simp[hh]at av;done)
  rename_i By;simp only[hh,dG]at av;subst av;intro a w ν aJ;exact wp_exit ⟨st,ν,he,aJ⟩
 | .ret,code,Q,st,av,he=>by
  cases code<;>try(simp[hh]at av;done)
  intro a w ν aJ;exact wp_ret ⟨st,ν,he,aJ⟩
 | .pub s c,code,Q,st,av,he=>by
  simp only[hh]at av;simp only[cR]at he;split at he
  ·rename_i st' ag;intro a w ν aJ;obtain⟨bn,J⟩:=ag6 aJ ag;exact qz hm aO c code Q st' av he a w bn J
  ·exact he.elim
 | .pubB s c,code,Q,st,av,he=>by
  simp only[hh]at av;simp only[cR]at he;split at he
  ·rename_i st' ag;intro a w ν aJ;obtain⟨bn,J⟩:=ag5 aJ ag;exact qz hm aO c code Q st' av he a w bn J
  ·exact he.elim
 | .fg oM s c,code,Q,st,av,he=>by simp only[hh]at av;simp only[cR]at he;intro a w ν aJ;exact qz hm aO c code Q _ av he a w ν (KE aJ (aaw (aJ.slot s)))
 | .fz eW s c,code,Q,st,av,he=>by
  simp only[hh]at av;simp only[cR]at he;intro a w ν aJ;split at he
  ·rename_i st' c9;obtain⟨bn,J⟩:=aaJ aJ c9;exact qz hm aO c code Q st' av he a w bn J
  ·exact he.elim
 | .no,code,Q,st,av,he=>by simp only[cR]at he
inductive bK where
 |tmp (i:Nat)
 |cell (i:Nat) (agg:Bool) (sz:Nat)
def aY(st:bo):bK→aW (Prop×ah)
 | .tmp i=>some (True,get i st.t)
 | .cell i agg sz=>l6 st.b st.e agg sz (get i st.t)
def aV(st:bo):List bK→aW (Prop×List ah)
 |[]=>some (True,[])
 |r::fa=>match aY st r,aV st fa with
  |some (c,p),some (ch,cm)=>some (c∧ch,p::cm)
  |_,_=>none
def qf(bt:List (Nat×dB)):List bK→List ResultVar→Bool
 |[],[]=>true
 | .tmp i::fa,.tmp j::os=>i==j&&qf bt fa os
 | .cell i agg sz::fa,.cell j t::os=>i==j&&(match dQ bt t with|some f=>f.size==sz&&f.kind.isAgg==agg|none=>false)&&qf bt fa os
 |_,_=>false
def aU:List ah→ah
 |[p]=>p
 |cm=>.tuple cm
def FJ(tmps:Array Value):ResultVar→Sem Value
 | .tmp t=>pure (tmps.getD t undef)
 | .cell x t=>do loadVar t (←asAddr (tmps.getD x undef))
theorem aic(fn:Func)(tmps:Array Value):results fn tmps=(do let ba←fn.results.mapM (FJ tmps);pure (if h:ba.size=1 then ba[0]else .tuple ba)):=by unfold results;congr 2
theorem KL{P:cy}{bt:List (Nat×dB)}(aO:fN P bt=true){X:e7}{st:bo}{a:Act}{w:World}{ν:bc}(aJ:cJ X st a w ν):
  ∀(fa:List bK) (os:List ResultVar) (c:Prop) (cm:List ah),qf bt fa os=true→aV st fa=some (c,cm)→c→
  ∃ba,(os.mapM (FJ a.tmps)).run P w= .ok ba w∧cH w ν cm ba
 |[],[],c,cm,_,he,_=>by simp only[aV]at he;cases he;exact⟨[],by simp,by simp[cH]⟩
 |[],_::_,_,_,av,_,_=>by simp[qf]at av
 | .tmp _::_,[],_,_,av,_,_=>by simp[qf]at av
 | .cell _ _ _::_,[],_,_,av,_,_=>by simp[qf]at av
 |r::fa,o::os,c,cm,av,he,aw=>by
  simp only[aV]at he;split at he
  ·rename_i bE p cc Ti J U;cases he;cases r with
   |tmp i=>
    cases o with
    |cell _ _=>simp[qf]at av
    |tmp j=>simp only[qf,cA,dG]at av;obtain⟨rfl,av⟩:=av;simp only[aY]at J;cases J;obtain⟨ba,g1,g2⟩:=KL aO aJ fa os cc Ti av U aw.2;refine⟨a.tmps.getD i undef::ba,?_,by simp only[cH];exact⟨_,_,rfl,aJ.slot i,g2⟩⟩;simp only[List.mapM_cons,fv,FJ,gj,fD,g1]
   |cell i agg sz=>
    cases o with
    |tmp _=>simp[qf]at av
    |cell j t=>
     simp only[qf,cA,dG]at av;obtain⟨⟨rfl,al⟩,av⟩:=av;split at al
     ·rename_i f aI;simp only[cA,dG]at al;obtain⟨rfl,rfl⟩:=al;simp only[aY]at J;obtain⟨ba,g1,g2⟩:=KL aO aJ fa os cc Ti av U aw.2;obtain⟨v,f1,f2⟩:=EK aO aJ.good aI (aJ.slot i) J aw.1;have Bm:∃rH,a.tmps.getD i undef= .pointer (some rH):=by
       have ag:=aJ.slot i;unfold l6 at J;split at J
       ·rename_i dy k n u4 qA ab;rw[ab]at ag;simp only[a7]at ag;obtain⟨⟨b,o,e⟩,_⟩:=ag;exact⟨_,e⟩
       ·rename_i k off ab;rw[ab]at ag;simp only[a7]at ag;obtain⟨b,_,e⟩:=ag;exact⟨_,e⟩
       ·rename_i q ab;rw[ab]at ag;simp only[a7]at ag;obtain⟨b,off,u,e,_⟩:=ag;exact⟨_,e⟩
       ·cases J
      obtain⟨rH,AX⟩:=Bm;rw[AX]at f1;simp only[Instr.loadAt,Instr.sureAddr,fv,gj,fD]at f1;refine⟨v::ba,?_,by simp only[cH];exact⟨_,_,rfl,f2,g2⟩⟩;have abI:(asAddr (.pointer (some rH)):Sem Addr).run P w= .ok rH w:=rfl;simp only[List.mapM_cons,fv,FJ,gj,fD,g1,AX,abI,f1]
     ·cases al
  ·cases he
theorem Cn{w:World}{ν:bc}:∀{cm:List ah} {ba:List Value},cH w ν cm ba→ba.length=cm.length
 |[],ba,h=>by simp only[cH]at h;subst h;rfl
 |p::cm,ba,h=>by simp only[cH]at h;obtain⟨u,cb,rfl,_,U⟩:=h;simp[Cn U]
def jR:Nat→List ah→List (Nat×ah)
 |_,[]=>[]
 |i,p::cm=>(i,p)::jR (i+1) cm
theorem HT:∀(cm:List ah) (i j:Nat),get j (jR i cm)=if i≤j∧j<i+cm.length then cm.getD (j-i) .junk else .junk
 |[],i,j=>by simp[jR,get]
 |p::cm,i,j=>by
  simp only[jR,get];by_cases h:i=j
  ·subst h;simp
  ·rw[if_neg h,HT cm (i+1) j];by_cases U:i≤j∧j<i+(p::cm).length
   ·rw[if_pos U,if_pos (by simp at U⊢;omega)];have:j-i=(j-(i+1))+1:=by omega
    rw[this];simp
   ·rw[if_neg U,if_neg (by simp at U⊢;omega)]
def lE{α:Type}(ai:cF):List (aD×α)→Prop
 |[]=>True
 |(k,_)::r=>inObs ai k∧lE ai r
theorem y3{α:Type}{ai:cF}:∀{l:List (aD×α)},lE ai l→∀k,(look k l).isSome→inObs ai k
 |[],_,k,h=>by simp[look]at h
 |(i,x)::r,ab,k,h=>by
  simp only[lE]at ab;simp only[look]at h;split at h
  ·rename_i e;subst e;exact ab.1
  ·exact y3 ab.2 k h
def cN(fa:List bK)(s:cF)(Q:ah→cF→Prop)(e:Exit)(st:bo):Prop:=
 (e= .ret∨e= .normal)∧match aV st fa with
  |some (c,cm)=>c∧∃ai,lE ai s.b∧lE ai s.e∧gu (inObs ai) ai.b st.b∧n4 (inObs ai) ai.e st.e∧ix ai∧aB (inObs ai) (dn (aU cm))∧Q (dn (aU cm)) ai
  |none=>eI
theorem bJ.of{P:cy}(hm:P.follows .mixedOrders=true){bt:List (Nat×dB)}(aO:fN P bt=true){f:FuncId}{fn:Func}(aI:P.funcs[f]? =some fn){code:Code}(ae:fn.body=some code)(Bg:(fn.name== "runtime.NumGoroutine")=false){c:C}(aw:hh fn.ntmps bt c code=true){fa:List bK}(Bq:qf bt fa fn.results.toList=true)
  {args:List ah} (au:args.length≤fn.ntmps) {s:cF} (oK:ix s) {Q:ah→cF→Prop} (he:eE args→(∀j cs,look j s.b=some cs→hF cs=true→eu cs)→cR P (cO s) c (cN fa s Q) ⟨jR 0 args,s.b,s.e,0,cO s⟩):bJ P f args s Q:=by
 intro w ν ba a1 ad aJ;refine .inl ⟨⟨fn,aI,by simp[ae],Bg⟩,?_⟩;have pc:=Cn aJ;have kp:ba.size=args.length:=by simpa using pc
 let X:e7:=⟨w,ν,fp ν s,fn.ntmps,cO s⟩
 have nO:∀k,fresh 0 (cO s) k→ν.bx k=none∧ν.ow k=none∧∀j b,¬ν.tr k j b:=by
  intro k ab;cases k with
  |loc m=>exact⟨(ad _).1 (oK.1 m),(ad _).2.1 (oK.2 m),(ad _).2.2⟩
  |obj m=>
   simp only[fresh,true_and]at ab;refine⟨?_,?_,(ad _).2.2⟩
   ·refine(ad _).1 ?_;cases h:look (.obj m) s.b with
    |none=>rfl
    |some x=>exact absurd (sk (.inl (by simp[h]))) ab
   ·refine(ad _).2.1 ?_;cases h:look (.obj m) s.e with
    |none=>rfl
    |some x=>exact absurd (sk (.inr (by simp[h]))) ab
 have iT:∀m,(ν.bx (.obj m)≠none∨ν.ow (.obj m)≠none)→ .obj m∈cO s:=by
  intro m hm;refine Classical.byContradiction fun aw=>?_;obtain⟨J,U,_⟩:=nO (.obj m) ⟨trivial,aw⟩;rcases hm with hm|hm
  ·exact hm J
  ·exact hm U
 have pa:cJ X ⟨jR 0 args,s.b,s.e,0,cO s⟩ {tmps:=ba++Array.replicate (fn.ntmps-ba.size) undef,defers:=[]} w ν:=by
  refine⟨⟨a1.alt,fun k cs ab=>?_,a1.inj,fun g o eM=>?_,a1.oinj,a1.obx,a1.one,a1.otr⟩,⟨rfl,rfl,rfl,eQ _,fun _ _ _=>rfl,fun b o h=>⟨h,rfl⟩,fun b o h=>.inl h,fun n b h=>h,fun n b h=>iT n (.inl (by rw[h];simp)),fun m n u h=>⟨n,u,h,.inl ⟨rfl,rfl⟩⟩,fun m n u h=>iT m (.inr (by rw[h];simp)),fun k j _ _ b h=>absurd h ((ad k).2.2 j b),fun k j b h=>absurd h ((ad k).2.2 j b),fun k j b h=>absurd h ((ad k).2.2 j b),fun _ _ _=>rfl⟩,rfl,?_,fun i=>?_,nO⟩
  ·obtain⟨bl,us,el,g1,g2,g3⟩:=a1.box k cs ab;exact⟨bl,us,el,g1,.inl g2,g3⟩
  ·obtain⟨v,us,g1,g2,g3,g4⟩:=a1.own g o eM;exact⟨v,us,g1,g2,fun bl fs=>⟨.inl (g3 bl fs).1,(g3 bl fs).2⟩,g4⟩
  ·show(ba++Array.replicate (fn.ntmps-ba.size) undef).size=fn.ntmps;simp;omega
  ·rw[HT];by_cases hi:i<args.length
   ·rw[if_pos (by omega)];have tj:args[i]? =some args[i]:=ca hi;obtain⟨v,aj,aC⟩:=FC i aJ tj;have aK:(ba++Array.replicate (fn.ntmps-ba.size) undef).getD i undef=v:=by
     have Hh:ba[i]? =some v:=by simpa using aj
     rw[Array.getD_eq_getD_getElem?,Array.getElem?_append_left (by omega),Hh];rfl
    show a7 w ν _ ((ba++Array.replicate (fn.ntmps-ba.size) undef).getD i undef);rw[aK];simpa[List.getD,tj]using aC
   ·rw[if_neg (by omega)];simp[a7]
 have tf:=he (Uj aJ) (fun j cs af=>by obtain⟨bl,us,el,_,_,_,_,g5⟩:=a1.box j cs af;exact T9 g5);have adi:=qz hm aO (X:=X) c code (cN fa s Q) _ aw tf _ w ν pa;refine calls_of_wp aI ae (wp_mono adi fun e bj w' cI=>?_);obtain⟨st',bn,⟨te,bp⟩,dx⟩:=cI;cases wU:aV st' fa with
 |none=>simp[wU]at bp
 |some x=>
  obtain⟨ch,cm⟩:=x;simp only[wU]at bp;obtain⟨hj,ai,kb,ke,aZ,bB,bQ,cS,c6⟩:=bp;obtain⟨vA,g1,g2⟩:=KL aO dx fa fn.results.toList ch cm Bq wU hj;have acV:=Cn g2;have dw:bj.defers=[]∧∃v,(results fn bj.tmps).run P w'= .ok v w'∧(fun(e:Ending) w'=> ∃v r ai bn,e= .returned v∧Q r ai∧a7 w' bn r v∧Good (fun bl=>fp ν s bl∨w.heap.size≤bl) w' bn ai.b ai.e∧oD bn ai∧ix ai∧pM ⟨w,ν,fp ν s,0,cO s⟩ w' bn) (.returned v) w':=by
   refine⟨dx.defers,?_⟩;have iu:(results fn bj.tmps).run P w'= .ok (if h:vA.toArray.size=1 then vA.toArray[0]else .tuple vA.toArray) w':=by rw[aic];simp only[fv,Array.mapM_eq_mapM_toList,Sem.run_map,g1,fD,gj]
   refine⟨_,iu,_,dn (aU cm),ai,bn.cut (inObs ai),rfl,c6,?_,dx.good.cut aZ bB (fun bl h _=>h),?_,bQ,?_⟩
   ·have lX:a7 w' bn (aU cm) (if h:vA.toArray.size=1 then vA.toArray[0]else .tuple vA.toArray):=by
     match cm,vA,g2,acV with
     |[p],[v],g2,_=>simp only[cH]at g2;obtain⟨u,cb,aj,aC,_⟩:=g2;cases aj;simpa[aU]using aC
     |[],[],g2,_=>simp[aU,a7,cH]
     |p::dm::cm,v::v2::vA,g2,_=>rw[dif_neg (by simp)];simp only[aU,a7];exact⟨_,rfl,by simpa using g2⟩
     |[_],[],_,h=>simp at h
     |[],_::_,_,h=>simp at h
     |[_],_::_::_,_,h=>simp at h
     |_::_::_,[],_,h=>simp at h
     |_::_::_,[_],_,h=>simp at h
    exact tW (oj.cut _ w' bn) _ _ cS (xA _ _ lX)
   ·intro k;refine⟨?_,?_,?_⟩;rotate_left 2
    ·rintro j b ⟨ag,ae⟩;obtain⟨t1,t2⟩:=dx.fr.trn k j b ae;rcases ag with ag|ag<;>obtain⟨x,hU⟩:=fE.1 ag
     ·obtain⟨bl,cb,el,aj,_⟩:=dx.good.box k x (aZ k x hU).1;rw[t1]at aj;cases aj
     ·obtain⟨v',cb,aj,_⟩:=dx.good.own k x (bB k x hU).1;rw[t2]at aj;cases aj
    ·intro ab;by_cases ag:inObs ai k
     ·rw[bc.cut_bx ag];rcases ag with ag|ag
      ·rw[ab]at ag;cases ag
      ·obtain⟨x,hU⟩:=fE.1 ag;obtain⟨v',cb,aj,_⟩:=dx.good.own k x (bB k x hU).1;rcases dx.good.one k with J|J
       ·exact J
       ·rw[J]at aj;cases aj
     ·exact(bc.cut_no ag).1
    ·intro ab;by_cases ag:inObs ai k
     ·rw[bc.cut_ow ag];rcases ag with ag|ag
      ·obtain⟨x,hU⟩:=fE.1 ag;obtain⟨bl,cb,el,aj,_⟩:=dx.good.box k x (aZ k x hU).1;rcases dx.good.one k with J|J
       ·rw[J]at aj;cases aj
       ·exact J
      ·rw[ab]at ag;cases ag
     ·exact(bc.cut_no ag).2.1
   ·refine⟨dx.fr.os,dx.fr.tape,dx.fr.output,dx.fr.size,dx.fr.block,dx.fr.keep,dx.fr.fresh,fun n b h=>?_,fun n b h=>iT n (.inl (by rw[h];simp)),fun m n u h=>?_,fun m n u h=>iT m (.inr (by rw[h];simp)),fun k j bH du b J U=>dx.fr.trd k j bH du b J.2 U.2,fun k j b ae=>dx.fr.trb k j b ae.2,fun k j b ae=>(by rw[bc.cut_bx ae.1,bc.cut_ow ae.1];exact dx.fr.trn k j b ae.2),dx.fr.sh⟩
    ·have ag:inObs ai (.obj n):=by
      cases au:look (.obj n) s.b with
      |none=>rw[(ad _).1 au]at h;cases h
      |some x=>exact y3 kb _ (by simp[au])
     rw[bc.cut_bx ag];exact dx.fr.obj n b h
    ·have ag:inObs ai (.obj m):=by
      cases au:look (.obj m) s.e with
      |none=>rw[(ad _).2.1 au]at h;cases h
      |some x=>exact y3 ke _ (by simp[au])
     rw[bc.cut_ow ag];exact dx.fr.row m n u h
  rcases te with rfl|rfl<;>exact dw
def b5(bt:List (Nat×dB))(c:C)(fa:List bK)(aeY:Nat)(fn:Func):Bool:=
 match fn.body with
 |some code=>hh fn.ntmps bt c code&&qf bt fa fn.results.toList&& !(fn.name== "runtime.NumGoroutine")&&decide (aeY≤fn.ntmps)
 |none=>false
theorem bJ.mk{P:cy}(hm:P.follows .mixedOrders=true){bt:List (Nat×dB)}(aO:fN P bt=true){f:FuncId}{fn:Func}(aI:P.funcs[f]? =some fn){c:C}{fa:List bK}{n:Nat}(eS:b5 bt c fa n fn=true)
  {args:List ah} (au:args.length≤n) {s:cF} (oK:ix s) {Q:ah→cF→Prop} (he:eE args→(∀j cs,look j s.b=some cs→hF cs=true→eu cs)→cR P (cO s) c (cN fa s Q) ⟨jR 0 args,s.b,s.e,0,cO s⟩):bJ P f args s Q:=by
 unfold b5 at eS;split at eS
 ·rename_i code ae;simp only[cA,Bool.not_eq_true',fx]at eS;obtain⟨⟨⟨J,U⟩,al⟩,a6⟩:=eS;exact bJ.of hm aO aI ae al J U (jT au a6) oK he
 ·cases eS
theorem xh:ix ⟨[],[]⟩:=⟨fun _=>rfl,fun _=>rfl⟩
def bA(fa:List bK)(r:ah)(e:Exit)(st:bo):Prop:=
 (e= .ret∨e= .normal)∧match aV st fa with
  |some (c,cm)=>c∧dn (aU cm)=r
  |none=>eI
theorem bI.mk{P:cy}(hm:P.follows .mixedOrders=true){bt:List (Nat×dB)}(aO:fN P bt=true){f:FuncId}{fn:Func}(aI:P.funcs[f]? =some fn){c:C}{fa:List bK}{n:Nat}(eS:b5 bt c fa n fn=true)
  {args:List ah} (au:args.length≤n) {r:ah} (aJ:aB (fun _=>eI) r) (he:eE args→cR P [] c (bA fa r) ⟨jR 0 args,[],[],0,[]⟩):bI P f args r:=by
 refine bJ.mk hm aO aI eS au xh fun J _=>?_;have:=he J;have ht:bA fa r=cN fa ⟨[],[]⟩ (fun ev ai=>ev=r∧ai=⟨[],[]⟩):=by
  funext e st;unfold bA cN;apply propext;refine and_congr_right fun _=>?_;cases aV st fa with
  |none=>exact Iff.rfl
  |some x=>
   obtain⟨c,cm⟩:=x;refine and_congr_right fun _=>?_;constructor
   ·intro h;refine⟨⟨[],[]⟩,trivial,trivial,fun k cs ab=>by simp[look]at ab,fun k cs ab=>by simp[look]at ab,xh,?_,h,rfl⟩;rw[h];exact vc (fun k ab=>ab.elim) r aJ
   ·rintro⟨ai,_,_,_,_,_,_,h,_⟩;exact h
 rw[ht]at this;exact this
theorem LF{α:Type}{β:Type}:∀l:List (aD×α),cu ([]:List (aD×β)) l=l
 |[]=>rfl
 |(k,x)::r=>by simp[cu,look,LF r]
theorem c2.val{P:cy}{n:Nat}{args:List ah}{st:bo}{d:aW Nat}{K:bo→Prop}{r:ah}(ab:aH (fun _=>eI) args)(aI:bI P n args r)(h:K {st with t:=eC d r st.t}):c2 P n args st d K:=by
 refine .inl ⟨⟨[],[]⟩,_,fun k cs ab=>by simp[look]at ab,fun k cs ab=>by simp[look]at ab,xh,jw (fun _ h=>h.elim) _ ab,aI,?_⟩;rintro ev ai ⟨rfl,rfl⟩;refine⟨⟨fun m h=>by simp[look]at h,fun m h=>by simp[look]at h⟩,?_⟩;have:after st ⟨[],[]⟩ ⟨[],[]⟩ d ev={st with t:=eC d ev st.t}:=by simp[after,LF,cO]
 rw[this];exact h
@[reducible,simp] def gi(n:Int):dk:= .c (.int .i64 n)
@[reducible,simp] def I(a b:Nat):cY:=⟨none,.s (.v a (.mov (.t b)))⟩
@[reducible,simp] def b0(a:Nat)(i:fI):cY:=⟨none,.s (.v a i)⟩
@[reducible,simp] def cX(i:ea):cY:=⟨none,.s i⟩
@[reducible,simp] def dE(a f:Nat)(l:List dk):cY:=⟨none,.call (some a) (.c (.func f [])) l⟩
@[reducible,simp] def b3(j:Nat)(w:Bool)(a b:Nat):cY:=⟨some (j,w),.s (.v a (.mov (.t b)))⟩
@[reducible,simp] def vO(j:Nat)(w:Bool)(a:Nat)(i:fI):cY:=⟨some (j,w),.s (.v a i)⟩
@[reducible,simp] def ys(j:Nat)(w:Bool)(i:ea):cY:=⟨some (j,w),.s i⟩
@[reducible,simp] def cv(d s a b:Nat):cY:=b0 d (.iaddr s (.t a) (.t b))
@[reducible,simp] def ax(d s a:Nat):cY:=b0 d (.load false s (.t a))
@[reducible,simp] def be(d s a:Nat):cY:=b0 d (.load true s (.t a))
@[reducible,simp] def aG(d o s a:Nat):cY:=b0 d (.faddr o false s (.t a))
@[reducible,simp] def hG(d o s a:Nat):cY:=b0 d (.faddr o true s (.t a))
@[reducible,simp] def bk(d:Nat)(o:BinOp)(a b:Nat):cY:=b0 d (.bin o false (.t a) (.t b))
@[reducible,simp] def aS(d:Nat)(o:BinOp)(a:Nat)(n:Int):cY:=b0 d (.bin o false (.t a) (gi n))
@[reducible,simp] def cn(d a:Nat):cY:=b0 d (.len (.t a))
@[reducible,simp] def cB(d a:Nat):cY:=b0 d (.notB (.t a))
@[reducible,simp] def cV(d i a:Nat):cY:=b0 d (.ext i (.t a))
@[reducible,simp] def df(d a b:Nat):cY:=b0 d (.pick (.t a) (.c (.bool true)) (.t b))
@[reducible,simp] def dH(d a b:Nat):cY:=b0 d (.pick (.t a) (.t b) (.c (.bool false)))
@[reducible,simp] def bm(d:Nat)(b:Bool):cY:=b0 d (.mov (.c (.bool b)))
@[reducible,simp] def bV(d:Nat)(n:Int):cY:=b0 d (.mov (gi n))
@[reducible,simp] def b1(s a b:Nat):cY:=cX (.store s (.t a) (.t b))
@[reducible,simp] def ar(j:Nat)(w:Bool)(x:cY):cY:=⟨some (j,w),x.i⟩
@[reducible,simp] def aa(l:List cY)(c:C):C:= .seq (.region l) c
@[reducible,simp] def aT(n:Nat)(a b:C):C:= .cond (.t n) a b
@[reducible,simp] def gv(d a:Nat)(l:List dk):cY:=⟨none,.call (some d) (.t a) l⟩
@[reducible,simp] def c7(d f a:Nat):cY:=dE d f [.t a]
@[reducible,simp] def cl(d f a b:Nat):cY:=dE d f [.t a,.t b]
@[reducible,simp] def dX:List ah:=[.int .i64 0,.int .i64 0,.str [],.slice 4 .nil []]
@[reducible,simp] def jO:List ah:=[.int .i64 0,.int .i64 0,.int .i64 0,.str [],.slice 4 .nil []]
@[reducible,simp] def nV:List ah:=[.int .i64 0,.slice 5 .nil [],.slice 1 .nil [],.slice 2 .nil [],.slice 2 .nil []]
@[reducible,simp] def cP(a b:Nat):cY:=cX (.box a none (.t b))
@[reducible,simp] def dL(a:Nat)(l:List ah):cY:=cX (.alloc a none (.agg l))
@[reducible,simp] def eO(a n:Nat):cY:=b0 a (.mov (.c (.slice n .nil [])))
@[reducible,simp] def iP(a b c d e:Nat):cY:=cX (.app a b c (.t d) (.t e))
@[reducible,simp] def fC(a b c:Nat)(l:List dk):cY:=cX (.bsl a b c l)
@[reducible,simp] def fo(a b:Nat):cY:=b0 a (.nck (.t b))
@[reducible,simp] def js(d s a:Nat)(n:Int):cY:=b0 d (.iaddr s (.t a) (gi n))
@[reducible,simp] def kO(d:Nat)(l:List ah)(m:List (Nat×Nat×dk)):cY:=b0 d (.build l m)
@[reducible,simp] def fG(a b c:Nat)(x:C):C:= .block 0 (.loop (aa [bk a .lss b c] (.seq (aT a .skip (.exit 0)) x)))
end Go.Pv
namespace Go.Pv
open Go Go.RowKit
theorem ep{α:Type}{l:List α}{i:Nat}(h:i<l.length):∃b,l[i]? =some b∧∀h,(l[i]'h)=b:=⟨l[i],ca h,fun _=>rfl⟩
def KR(st:bo)(i:ea):Prop:=match lG st i with|some (c,_)=>c|none=>eI
def KS(st:bo)(i:ea):bo:=match lG st i with|some (_,s)=>s|none=>st
def CV(P:cy)(r:List cY)(K:bo→Prop)(st:bo):Prop:=hJ P r st K
def xZ(P:cy)(ob:List aD)(c:C)(Q:Exit→bo→Prop)(st:bo):Prop:=cR P ob c Q st
def o5(P:cy)(v:ah)(s:Nat)(w:Bool)(i:dT)(r:List cY)(st:bo)(K:bo→Prop):Prop:=
 match v with
 | .bool b=>(b=w→hJ P (⟨none,i⟩::r) {st with t:=put s (.bool w) st.t} K)∧(b= !w→hJ P r {st with t:=eC i.dst (.tuple []) (put s (.bool !w) st.t)} K)
 | .tuple []=>hJ P r {st with t:=eC i.dst (.tuple []) st.t} K
 |_=>eI
def s6(P:cy)(ob:List aD)(v:ah)(x:dk)(t e:C)(Q:Exit→bo→Prop)(st:bo):Prop:=
 match v with
 | .bool b=>(b=true→cR P ob t Q (ri st x true))∧(b=false→cR P ob e Q (ri st x false))
 |_=>eI
def Hq(P:cy)(v:ah)(d:aW Nat)(xs:List ah)(r:List cY)(st:bo)(K:bo→Prop):Prop:=
 match v with
 | .func n dh=>c2 P n (cU (xs++dh)) st d (CV P r K)
 |_=>eI
section
variable {P:cy} {ob:List aD} {st:bo} {K:bo→Prop} {r:List cY} {Q:Exit→bo→Prop} {a b c t e:C}
theorem Yv:hJ P [] st K=K st:=rfl
theorem Yw{i:ea}:hJ P (⟨none,.s i⟩::r) st K=(KR st i∧hJ P r (KS st i) K):=by
 simp only[hJ,sZ,KR,KS];cases lG st i with
 |none=>simp
 |some x=>rfl
theorem Ys{d:aW Nat}{f:dk}{xs:List dk}:hJ P (⟨none,.call d f xs⟩::r) st K=Hq P (cg st.t f) d (xs.map (cg st.t)) r st K:=by simp only[hJ,sZ,Hq];rfl
theorem Yu{d:Nat}{x:dk}:hJ P (⟨none,.next d x⟩::r) st K=rP st d (cg st.t x) (CV P r K):=by simp only[hJ,sZ];rfl
def vT(P:cy)(ob:List aD)(c:C)(Q:Exit→bo→Prop):aW bo→Prop
 |some st=>cR P ob c Q st
 |none=>eI
theorem V4:vT P ob c Q (some st)=cR P ob c Q st:=rfl
theorem X7{s:Nat}:cR P ob (.pub s c) Q st=vT P ob c Q (vs st s):=by simp only[cR];cases vs st s<;>rfl
theorem X3{oM:Bool}{s:Nat}:cR P ob (.fg oM s c) Q st=cR P ob c Q {st with t:=put s (yl oM (get s st.t)) st.t}:=rfl
theorem X4{oM:Bool}{s:Nat}{d:C}:cR P ob (.seq (.fg oM s c) d) Q st=cR P ob (.seq c d) Q {st with t:=put s (yl oM (get s st.t)) st.t}:=rfl
theorem X5{eW:Bool}{s:Nat}:cR P ob (.fz eW s c) Q st=vT P ob c Q (uF st eW s):=by simp only[cR];cases uF st eW s<;>rfl
theorem X6{eW:Bool}{s:Nat}{d:C}:cR P ob (.seq (.fz eW s c) d) Q st=vT P ob (.seq c d) Q (uF st eW s):=by simp only[cR];cases uF st eW s<;>rfl
theorem X8{s:Nat}:cR P ob (.pubB s c) Q st=vT P ob c Q (vr st s):=by simp only[cR];cases vr st s<;>rfl
theorem Yr{n:Nat}{dh:List ah}{d:aW Nat}{xs:List ah}:Hq P (.func n dh) d xs r st K=c2 P n (cU (xs++dh)) st d (CV P r K):=rfl
theorem Yt{s:Nat}{w:Bool}{i:dT}:hJ P (⟨some (s,w),i⟩::r) st K=o5 P (get s st.t) s w i r st K:=by simp only[hJ,o5];try rfl
theorem YB{s:Nat}{i:dT}:o5 P (.bool true) s true i r st K=hJ P (⟨none,i⟩::r) {st with t:=put s (.bool true) st.t} K:=by simp[o5]
theorem Yx{s:Nat}{i:dT}:o5 P (.bool false) s false i r st K=hJ P (⟨none,i⟩::r) {st with t:=put s (.bool false) st.t} K:=by simp[o5]
theorem YA{s:Nat}{i:dT}:o5 P (.bool true) s false i r st K=hJ P r {st with t:=eC i.dst (.tuple []) (put s (.bool true) st.t)} K:=by simp[o5]
theorem Yy{s:Nat}{i:dT}:o5 P (.bool false) s true i r st K=hJ P r {st with t:=eC i.dst (.tuple []) (put s (.bool false) st.t)} K:=by simp[o5]
theorem Yz{s:Nat}{w:Bool}{i:dT}:o5 P (.tuple []) s w i r st K=hJ P r {st with t:=eC i.dst (.tuple []) st.t} K:=by simp[o5]
theorem bS{x:Bool}{s:Nat}{w:Bool}{i:dT}(J:x=w→hJ P (⟨none,i⟩::r) {st with t:=put s (.bool w) st.t} K)(U:x= !w→hJ P r {st with t:=eC i.dst (.tuple []) (put s (.bool !w) st.t)} K):o5 P (.bool x) s w i r st K:=⟨J,U⟩
theorem XS:cR P ob (.seq (.seq a b) c) Q st=cR P ob (.seq a (.seq b c)) Q st:=by simp only[cR];congr 1;funext e st';cases e<;>rfl
theorem Yd:cR P ob (.seq .skip c) Q st=cR P ob c Q st:=rfl
theorem Yb:cR P ob (.seq .ret c) Q st=Q .ret st:=rfl
theorem X1{n:Nat}:cR P ob (.seq (.exit n) c) Q st=Q (.exit n) st:=rfl
theorem Ye:cR P ob .skip Q st=Q .normal st:=rfl
theorem Yc:cR P ob .ret Q st=Q .ret st:=rfl
theorem X2{n:Nat}:cR P ob (.exit n) Q st=Q (.exit n) st:=rfl
theorem X9{gs:List cY}:cR P ob (.seq (.region gs) c) Q st=hJ P gs st (xZ P ob c Q):=rfl
theorem Ya{gs:List cY}:cR P ob (.region gs) Q st=hJ P gs st (Q .normal):=rfl
theorem XV{x:dk}:cR P ob (.seq (.cond x t e) c) Q st=s6 P ob (cg st.t x) x (.seq t c) (.seq e c) Q st:=by simp only[cR,s6];try rfl
theorem XW{x:dk}:cR P ob (.cond x t e) Q st=s6 P ob (cg st.t x) x t e Q st:=by simp only[cR,s6];try rfl
theorem Yg{x:dk}:s6 P ob (.bool true) x t e Q st=cR P ob t Q (ri st x true):=by simp[s6]
theorem Yf{x:dk}:s6 P ob (.bool false) x t e Q st=cR P ob e Q (ri st x false):=by simp[s6]
theorem bO{v:Bool}{x:dk}(J:v=true→cR P ob t Q (ri st x true))(U:v=false→cR P ob e Q (ri st x false)):s6 P ob (.bool v) x t e Q st:=⟨J,U⟩
def xV(P:cy)(ob:List aD)(id:Nat)(c:C)(Q:Exit→bo→Prop)(e:Exit)(st:bo):Prop:=
 match e with
 | .normal=>cR P ob c Q st
 | .exit j=>if j=id then cR P ob c Q st else Q (.exit j) st
 |e=>Q e st
theorem XT{id:Nat}:cR P ob (.seq (.block id a) c) Q st=cR P ob a (xV P ob id c Q) st:=by
 simp only[cR];congr 1;funext e st';cases e with
 |exit j=>rfl
 |_=>rfl
theorem XU{id:Nat}:cR P ob (.block id a) Q st=cR P ob a (xV P ob id .skip Q) st:=by
 simp only[cR];congr 1;funext e st';cases e with
 |exit j=>simp only[xV];by_cases af:j=id<;>simp[af,cR]
 |_=>rfl
theorem VS{id:Nat}:xV P ob id c Q .normal st=xZ P ob c Q st:=rfl
theorem VR{id j:Nat}:xV P ob id c Q (.exit j) st=if j=id then xZ P ob c Q st else Q (.exit j) st:=rfl
theorem VT{id:Nat}:xV P ob id c Q .ret st=Q .ret st:=rfl
def bL(ob:List aD)(gK:Nat→bo→Prop)(k:Nat)(Q:Exit→bo→Prop)(e:Exit)(st:bo):Prop:=
 match e with
 | .normal=> ∃bH n1,bH<k∧ig ob st n1∧gK bH n1
 |e=>Q e st
theorem CS{gK:Nat→bo→Prop}{k:Nat}:bL ob gK k Q .normal st= ∃bH n1,bH<k∧ig ob st n1∧gK bH n1:=rfl
theorem VZ{gK:Nat→bo→Prop}{k n:Nat}:bL ob gK k Q (.exit n) st=Q (.exit n) st:=rfl
theorem V0{gK:Nat→bo→Prop}{k:Nat}:bL ob gK k Q .ret st=Q .ret st:=rfl
theorem s5(gK:Nat→bo→Prop)(m:Nat)(vC:bo)(hw:ig ob st vC)(bs:gK m vC)(h:∀k s,gK k s→(∀i,ej (get i s.t))→(∀j cs,look j s.b=some cs→hF cs=true→eu cs)→cR P ob a (bL ob gK k Q) s):cR P ob (.loop a) Q st:=by
 simp only[cR];refine⟨gK,m,vC,hw,bs,fun k s J U al=>?_⟩;have:=h k s J U al;have bp:(bL ob gK k Q)=(fun e ai=>match e with| .normal=> ∃bH n1,bH<k∧ig ob ai n1∧gK bH n1|e=>Q e ai):=by funext e ai;cases e<;>rfl
 rw[bp]at this;exact this
end
/-Regions cM draw lh order. -/
def KP(n0:Nat)(st:bo)(i:ea):Prop:=match er (oz n0 i) st.n (oz n0 i::st.o) st i with|some (c,_)=>c|none=>eI
def KQ(n0:Nat)(st:bo)(i:ea):bo:=match er (oz n0 i) st.n (oz n0 i::st.o) st i with|some (_,s)=>s|none=>st
def Gi(P:cy)(q:Bool)(nw:List Nat)(n0:Nat)(r:List cY)(K:bo→Prop)(st:bo):Prop:=hA P q nw n0 r st K
def o4(P:cy)(q:Bool)(nw:List Nat)(n0:Nat)(v:ah)(s:Nat)(w:Bool)(i:dT)(r:List cY)(st:bo)(K:bo→Prop):Prop:=
 match v with
 | .bool b=>(b=w→hA P q nw n0 (⟨none,i⟩::r) {st with t:=put s (.bool w) st.t} K)∧(b= !w→hA P q nw n0 r {st with t:=eC i.dst (.tuple []) (put s (.bool !w) st.t)} K)
 | .tuple []=>hA P q nw n0 r {st with t:=eC i.dst (.tuple []) st.t} K
 |_=>eI
def Hp(P:cy)(q:Bool)(nw:List Nat)(n0:Nat)(v:ah)(d:aW Nat)(xs:List ah)(r:List cY)(st:bo)(K:bo→Prop):Prop:=
 match v with
 | .func n dh=>hO P q nw n (cU (xs++dh)) st d (Gi P q nw n0 r K)
 |_=>eI
section
variable {P:cy} {ob:List aD} {st:bo} {K:bo→Prop} {r:List cY} {Q:Exit→bo→Prop} {c:C} {q:Bool} {nw:List Nat} {n0 N:Nat}
theorem Yk:hA P q nw n0 [] st K=K st:=rfl
theorem Yl{i:ea}:hA P q nw n0 (⟨none,.s i⟩::r) st K=(ls q nw n0 st i∧KP n0 st i∧hA P q nw n0 r (KQ n0 st i) K):=by
 simp only[hA,jX,KP,KQ];cases er (oz n0 i) st.n (oz n0 i::st.o) st i with
 |none=>simp
 |some x=>rfl
theorem Yi{d:aW Nat}{f:dk}{xs:List dk}:hA P q nw n0 (⟨none,.call d f xs⟩::r) st K=Hp P q nw n0 (cg st.t f) d (xs.map (cg st.t)) r st K:=by simp only[hA,jX,Hp];rfl
theorem Yh{n:Nat}{dh:List ah}{d:aW Nat}{xs:List ah}:Hp P q nw n0 (.func n dh) d xs r st K=hO P q nw n (cU (xs++dh)) st d (Gi P q nw n0 r K):=rfl
theorem Yj{s:Nat}{w:Bool}{i:dT}:hA P q nw n0 (⟨some (s,w),i⟩::r) st K=o4 P q nw n0 (get s st.t) s w i r st K:=by simp only[hA,o4];try rfl
theorem Yq{s:Nat}{i:dT}:o4 P q nw n0 (.bool true) s true i r st K=hA P q nw n0 (⟨none,i⟩::r) {st with t:=put s (.bool true) st.t} K:=by simp[o4]
theorem Ym{s:Nat}{i:dT}:o4 P q nw n0 (.bool false) s false i r st K=hA P q nw n0 (⟨none,i⟩::r) {st with t:=put s (.bool false) st.t} K:=by simp[o4]
theorem Yp{s:Nat}{i:dT}:o4 P q nw n0 (.bool true) s false i r st K=hA P q nw n0 r {st with t:=eC i.dst (.tuple []) (put s (.bool true) st.t)} K:=by simp[o4]
theorem Yn{s:Nat}{i:dT}:o4 P q nw n0 (.bool false) s true i r st K=hA P q nw n0 r {st with t:=eC i.dst (.tuple []) (put s (.bool false) st.t)} K:=by simp[o4]
theorem Yo{s:Nat}{w:Bool}{i:dT}:o4 P q nw n0 (.tuple []) s w i r st K=hA P q nw n0 r {st with t:=eC i.dst (.tuple []) st.t} K:=by simp[o4]
theorem bR{x:Bool}{s:Nat}{w:Bool}{i:dT}(J:x=w→hA P q nw n0 (⟨none,i⟩::r) {st with t:=put s (.bool w) st.t} K)(U:x= !w→hA P q nw n0 r {st with t:=eC i.dst (.tuple []) (put s (.bool !w) st.t)} K):o4 P q nw n0 (.bool x) s w i r st K:=⟨J,U⟩
theorem XX{gs:List cY}:cR P ob (.seq (.drawn q N gs) c) Q st=hA P q [] st.n gs st (sJ (st.n+N) st.o (xZ P ob c Q)):=rfl
theorem XY{gs:List cY}:cR P ob (.drawn q N gs) Q st=hA P q [] st.n gs st (sJ (st.n+N) st.o (Q .normal)):=rfl
theorem XZ{gs:List cY}:cR P ob (.seq (.drawnW nw N gs) c) Q st=((∀j∈nw,.obj j∉st.o)∧hA P false nw st.n gs st (sJ (st.n+N) (nw.map aD.obj++st.o) (xZ P ob c Q))):=rfl
theorem X0{gs:List cY}:cR P ob (.drawnW nw N gs) Q st=((∀j∈nw,.obj j∉st.o)∧hA P false nw st.n gs st (sJ (st.n+N) (nw.map aD.obj++st.o) (Q .normal))):=rfl
theorem hO.val{n:Nat}{args:List ah}{d:aW Nat}{r:ah}(ab:aH (fun _=>eI) args)(aI:bI P n args r)(h:K {st with t:=eC d r st.t}):hO P q nw n args st d K:=by
 refine .inr ⟨⟨[],[]⟩,⟨[],[]⟩,r,none,fun k cs ab=>by simp[look]at ab,fun k cs ab=>by simp[look]at ab,xh,xh,⟨fun k h=>.inl h,fun k h=>.inl h,fun k h=>h,fun k h=>h,fun k h=>by cases h⟩,jw (fun _ h=>h.elim) _ ab,aI,fun _=>⟨rfl,rfl⟩,?_⟩;have:({after st ⟨[],[]⟩ ⟨[],[]⟩ d r with o:=st.o}:bo)={st with t:=eC d r st.t}:=by simp[after,LF]
 rw[this];exact h
theorem aF{n:Nat}{args:List ah}{d:aW Nat}{r:ah}(aI:bI P n args r)(h:K {st with t:=eC d r st.t})(ab:aH (fun _=>eI) args:=by simp):hO P q nw n args st d K:=hO.val ab aI h
end
section
variable {k:IntKind} {n:Int} {b:Bool} {s:List dA} {sz:Nat} {tag:Ag} {xs:List ah} {key:aD} {off f:Nat} {x:ah}
@[simp] theorem aoS:dS (.int k n)=true:=rfl
@[simp] theorem aoE:dS (.bool b)=true:=rfl
@[simp] theorem ao2:dS (.str s)=true:=rfl
@[simp] theorem ao1:dS (.slice sz tag xs)=true:=rfl
@[simp] theorem aoA:dS (.agg xs)=true:=rfl
@[simp] theorem aoZ:dS (.ptr key off)=true:=rfl
@[simp] theorem aoO:dS (.eptr x)=true:=rfl
@[simp] theorem aoR{t:Nat}:dS (.iface t x)=true:=rfl
@[simp] theorem alo{t:Nat}:cells (.iface t x)=[.iface t x]:=rfl
@[simp] theorem aoG{a:aW Addr}{n c:Nat}:dS (.cst (.slice a n c))=true:=rfl
@[simp] theorem aoH{s}:dS (.cst (.string s))=true:=rfl
@[simp] theorem aoY:dS .nilp=true:=rfl
@[simp] theorem aoP:dS (.func f xs)=true:=rfl
@[simp] theorem aoQ:dS (.gmap key)=true:=rfl
@[simp] theorem ao0{n:Nat}:dS (.row sz key n)=true:=rfl
@[simp] theorem alz{n:Nat}:cells (.row sz key n)=[.row sz key n]:=rfl
@[simp] theorem alp:cells (.int k n)=[.int k n]:=rfl
@[simp] theorem alc:cells (.bool b)=[.bool b]:=rfl
@[simp] theorem alB:cells (.str s)=[.str s]:=rfl
@[simp] theorem alA:cells (.slice sz tag xs)=[.slice sz tag xs]:=rfl
@[simp] theorem ak8:cells (.agg xs)=xs:=rfl
@[simp] theorem aly:cells (.ptr key off)=[.ptr key off]:=rfl
@[simp] theorem alk:cells (.eptr x)=[.eptr x]:=rfl
@[simp] theorem alx:cells .nilp=[.nilp]:=rfl
@[simp] theorem alm:cells (.func f xs)=[.func f xs]:=rfl
@[simp] theorem aln:cells (.gmap key)=[.gmap key]:=rfl
end
section
variable {b:List (aD×List ah)} {e:List (aD×fF)} {agg:Bool} {sz off:Nat} {k:aD} {p:ah} {cs xs ba:List ah} {fb:IntKind} {n i:Int} {m j:Nat} {tag:Ag} {s:List dA} {Mm:Bool} {lo hi:aW ah}
@[simp] theorem anA{dy:Nat}{f:Nat}:l6 b e agg sz (.rptr dy k m j f)=xB agg sz dy m j f (look k e):=rfl
@[simp] theorem anz:l6 b e agg sz (.ptr k off)=(match look k b with
  |some cs=>if agg then some (hF cs=true∧off+sz≤cs.length,.agg ((cs.drop off).take sz))else(cs[off]?).map fun p=>(hF cs=true,p)
  |none=>none):=rfl
@[simp] theorem anx:l6 b e agg sz (.eptr p)=if agg then some (isAgg sz p,p)else some (dS p=true∧cells p=[p],p):=rfl
@[simp] theorem al3:AL agg sz (.eptr p)=if agg then some (isAgg sz p,p)else some (dS p=true∧cells p=[p],p):=rfl
@[simp] theorem alT{o:Nat}:o6 off agg sz (.ptr k o)=some (True,.ptr k (o+off)):=rfl
@[simp] theorem alU{dy f:Nat}:o6 off agg sz (.rptr dy k m j f)=some (True,.rptr dy k m j (f+off)):=rfl
@[simp] theorem alM:o6 off agg sz (.eptr (.agg cs))=if agg then some (off+sz≤cs.length,.eptr (.agg ((cs.drop off).take sz)))else(cs[off]?).map fun p=>(dS p=true∧cells p=[p],.eptr p):=rfl
@[simp] theorem alW:qC off agg sz (.agg cs)=if agg then some (off+sz≤cs.length,.agg ((cs.drop off).take sz))else(cs[off]?).map fun p=>(True,p):=rfl
@[simp] theorem amx{dy:Nat}:yY sz (.slice dy tag xs) (.int fb i)=if dy=sz then some (0≤i∧i<xs.length,.eptr (xs.getD i.toNat .junk))else none:=rfl
@[simp] theorem amw{dy:Nat}:yY sz (.row dy k m) (.int fb i)=if dy=sz then some (0≤i∧i<m,.rptr dy k m i.toNat 0)else none:=rfl
@[simp] theorem anw{dy:Nat}:y7 (.slice dy tag xs)=some (True,.int .i64 xs.length):=rfl
@[simp] theorem anv{dy:Nat}:y7 (.row dy k m)=some (True,.int .i64 m):=rfl
@[simp] theorem anu{a:aW Addr}{n c:Nat}:y7 (.cst (.slice a n c))=some (True,.int .i64 n):=rfl
@[simp] theorem aoy{s}:Cw (.cst (.string s))=some (True,.int .i64 s.size):=rfl
@[simp] theorem aoz:Cw (.str s)=some (True,.int .i64 s.length):=rfl
@[simp] theorem alL:yg j (.tuple ba)=(ba[j]?).map fun p=>(True,p):=rfl
@[simp] theorem an0:zi (.ptr k off)=some (True,.ptr k off):=rfl
@[simp] theorem anY:zi (.eptr p)=some (True,.eptr p):=rfl
@[simp] theorem anZ:zi (.func j cs)=some (True,.func j cs):=rfl
@[simp] theorem an1:E0 (.bool Mm)=some (True,.bool (!Mm)):=rfl
@[simp] theorem aox:FN (.str s) (.int fb i)=some (0≤i∧i<s.length,.int .u8 (s.getD i.toNat 0).toNat):=rfl
@[simp] theorem ao4:FT (.str s) lo hi=(match qd 0 lo,qd s.length hi with
  |some l,some h=>some (0≤l∧l≤h∧h≤s.length,.str ((s.take h.toNat).drop l.toNat))
  |_,_=>none):=rfl
@[simp] theorem anB{dy:Nat}:EL sz (.slice dy tag xs) lo hi=(if dy=sz then match qd 0 lo,qd xs.length hi with
  |some l,some h=>some (0≤l∧l≤h∧h≤xs.length,.slice sz .no ((xs.take h.toNat).drop l.toNat))
  |_,_=>none else none):=rfl
theorem Sw{f:aD→aW (List ah)}{b7:jd}{z q:ah}{ok:Bool}:nk f b7 z ok (.gmap k) q=(match f k with
  |some (.hdm _ _::kvs)=>if tx b7 q=false then none else match vi b7 q kvs with
   |some (some v)=>some (True,if ok then .tuple [v,.bool true]else v)
   |some none=>some (True,if ok then .tuple [z,.bool false]else z)
   |none=>none
  |_=>none):=rfl
theorem aeP{f:aD→aW (List ah)}:tJ f (.gmap k)=(match f k with
  |some (.hdm _ borns::_)=>some (True,.int .i64 borns.length)
  |_=>none):=rfl
theorem St{f:aD→aW (List ah)}:oN f (.ptr k 0)=(match f k with
  |some [.hdi _ seen last,.gmap mk]=>match f mk with
   |some (.hdm clock borns::kvs)=>match seen.getLast? with
    |some n=>(l7 n borns kvs).map fun p=>(clock=last,p)
    |none=>none
   |_=>none
  |_=>none):=rfl
@[simp] theorem aou{dy f n' el iO:Nat}:xB agg sz dy m j f (some ⟨n',el,iO,some xs⟩)=(if n'=m∧iO=dy then
   (match xs[j]? with
    |some p=>if agg then some (dS p=true∧f+sz≤(cells p).length,.agg (((cells p).drop f).take sz))else((cells p)[f]?).map fun q=>(dS p=true,q)
    |none=>none)else none):=rfl
end
attribute [simp] XS X9 XT XV Yd Yb X1 Ye Yc X2 Ya XU XW xZ VS VR VT VZ V0 Yv Yw Ys Yr Yt
 YB Yx YA Yy Yz Yg Yf KR KS lG gU jR cg get put jo pj mJ mK cw qd Am Eo FU nn sV E9 EW Ds EV
 look eC ea.dst dT.dst ri CV rI cU dn aB aH
 XX XY XZ X0 Yk Yl Yi Yh Yj Yq Ym Yp Yn Yo KP KQ er oz ls wq fI.loadO sJ Gi w3 hF rJ Yu X7 X8 X3 X4 X5 X6 uF HL rM yl V4 vs Cc vr qj l9 h2 EP
theorem aE{P:cy}{n:Nat}{args:List ah}{st:bo}{d:aW Nat}{K:bo→Prop}{r:ah}(aI:bI P n args r)(h:K {st with t:=eC d r st.t})(ab:aH (fun _=>eI) args:=by simp):c2 P n args st d K:=c2.val ab aI h
theorem ak{a b:Prop}(ae:b)(bD:a:=by first|omega|(unfold r8;omega)|(unfold lim;omega)):a∧b:=⟨bD,ae⟩
theorem cq{p:Prop}(h:eI:=by first|contradiction|omega):p:=h.elim
theorem ct{p:Prop}(h:p:=by(try simp[*]);(repeat' first|with_reducible refine ak ?_|with_reducible refine aE (by assumption) ?_|with_reducible refine aF (by assumption) ?_|simp[*]);(all_goals first|done|(simp[bA,aV,aY,aU, *];done))):p:=h
end Go.Pv
namespace Go.Pv
open Go Go.RowKit
structure ee (s:cF):Prop where
 obj:ix s
 kb:∀k cs,look k s.b=some cs→aH (inObs s) cs
 ke:∀k o,look k s.e=some o→dN (inObs s) o
structure Same (s ai:cF):Prop where
 b:∀k,(look k s.b).isSome=(look k ai.b).isSome
 e:∀k,(look k s.e).isSome=(look k ai.e).isSome
theorem Same.refl(s:cF):Same s s:=⟨fun _=>rfl,fun _=>rfl⟩
theorem Same.inObs{s ai:cF}(h:Same s ai)(k:aD):inObs s k↔inObs ai k:=by unfold Pv.inObs;rw[h.b,h.e]
theorem tG{α:Type}{k:aD}{x:α}:∀{l:List (aD×α)},(k,x)∈l→(look k l).isSome
 |(i,y)::r,h=>by
  simp only[look];split
  ·rfl
  ·rename_i cC;rcases fU.1 h with h|h
   ·cases h;exact absurd rfl cC
   ·exact tG h
theorem Rb{s:cF}{k:aD}(h:k∈cO s):inObs s k:=by
 unfold cO at h;rcases ki.1 h with h|h
 ·obtain⟨⟨bH,x⟩,J,rfl⟩:=iC.1 h;exact .inl (tG J)
 ·obtain⟨⟨bH,x⟩,J,rfl⟩:=iC.1 h;exact .inr (tG J)
theorem jz{s:cF}(h:ix s)(m:Nat):aD.loc m∉cO s:=fun hm=>by
 rcases Rb hm with J|J
 ·rw[h.1 m]at J;cases J
 ·rw[h.2 m]at J;cases J
theorem h8{α β:Type}(s:List (aD×β)):∀(a b:List (aD×α)),cu s (a++b)=cu s a++cu s b
 |[],b=>rfl
 |(k,x)::r,b=>by
  simp only[bN,cu];cases look k s with
  |none=>simp[h8 s r b]
  |some _=>exact h8 s r b
theorem LG{α β:Type}(s:List (aD×β)):∀(l:List (aD×α)),(∀k x,(k,x)∈l→(look k s).isSome)→cu s l=[]
 |[],_=>rfl
 |(k,x)::r,h=>by
  have J:=h k x (by simp);simp only[cu];cases au:look k s with
  |none=>rw[au]at J;cases J
  |some _=>exact LG s r fun k x ad=>h k x (by simp[ad])
theorem gH{α:Type}(s:List (aD×α)):cu s s=[]:=LG s s fun k x h=>tG h
theorem jE{α:Type}{k:aD}{x:α}:∀{l:List (aD×α)},look k l=none→cw k x l=l++[(k,x)]
 |[],_=>rfl
 |(i,y)::r,h=>by
  simp only[look]at h;split at h
  ·cases h
  ·rename_i cC;simp[cw,cC,jE h]
theorem cE{α:Type}(k:aD):∀(a b:List (aD×α)),look k (a++b)=match look k a with|some x=>some x|none=>look k b
 |[],b=>rfl
 |(i,y)::r,b=>by
  simp only[bN,look];split
  ·rfl
  ·exact cE k r b
theorem c2.ob{P:cy}{n:Nat}{args:List ah}{st:bo}{d:aW Nat}{K:bo→Prop}{s:cF}{Q:ah→cF→Prop}(aI:bJ P n args s Q)(ag:ee s)(ae:∀k cs,look k s.b=some cs→look k st.b=some cs)(he:∀k o,look k s.e=some o→look k st.e=some o)
  (ab:aH (inObs s) args) (h:∀r ai,Q r ai→Same s ai∧K ⟨eC d r st.t,cu s.b st.b++ai.b,cu s.e st.e++ai.e,st.n,st.o++cO ai⟩):c2 P n args st d K:=by
 refine .inl ⟨s,Q,fun k cs aw=>⟨ae k cs aw,.inl (by simp[aw]),ag.kb k cs aw⟩,fun k o av=>⟨he k o av,.inr (by simp[av]),ag.ke k o av⟩,ag.obj,ab,aI,fun r ai bp=>?_⟩;obtain⟨J,U⟩:=h r ai bp;exact⟨⟨fun m hm=>.inl (by rw[J.b];exact hm),fun m hm=>.inl (by rw[J.e];exact hm)⟩,U⟩
theorem cN.ob{fa:List bK}{s ai:cF}{Q:ah→cF→Prop}{e:Exit}{st:bo}{c:Prop}{cm:List ah}(te:e= .ret∨e= .normal)(wU:aV st fa=some (c,cm))(aw:c)(ag:ee ai)(e4:Same s ai)(ae:∀k cs,look k ai.b=some cs→look k st.b=some cs)(ds:∀k o,look k ai.e=some o→look k st.e=some o)
  (ab:aB (inObs ai) (dn (aU cm))) (bp:Q (dn (aU cm)) ai):cN fa s Q e st:=by
 refine⟨te,?_⟩;rw[wU];have Qu:∀{α:Type} (l:List (aD×α)),(∀k x,(k,x)∈l→inObs ai k)→lE ai l:=by
  intro α l;induction l with
  |nil=>intro _;trivial
  |cons x r bM=>obtain⟨k,x⟩:=x;intro h;exact⟨h k x (by simp),bM fun k x ad=>h k x (by simp[ad])⟩
 exact⟨aw,ai,Qu _ fun k x ad=>.inl (by rw[←e4.b];exact tG ad),Qu _ fun k x ad=>.inr (by rw[←e4.e];exact tG ad),fun k cs dj=>⟨ae k cs dj,.inl (by simp[dj]),ag.kb k cs dj⟩,fun k o av=>⟨ds k o av,.inr (by simp[av]),ag.ke k o av⟩,ag.obj,ab,bp⟩
theorem bJ.mono{P:cy}{f:FuncId}{args:List ah}{s:cF}{Q pO:ah→cF→Prop}(h:bJ P f args s Q)(bp:∀r ai,Q r ai→pO r ai):bJ P f args s pO:=by
 intro w ν ba J U al;have hm:∀(e:Ending) (w':World),(∃v r ai bn,e= .returned v∧Q r ai∧a7 w' bn r v∧Good (fun bl=>fp ν s bl∨w.heap.size≤bl) w' bn ai.b ai.e∧oD bn ai∧ix ai∧pM ⟨w,ν,fp ν s,0,cO s⟩ w' bn)→(∃v r ai bn,e= .returned v∧pO r ai∧a7 w' bn r v∧Good (fun bl=>fp ν s bl∨w.heap.size≤bl) w' bn ai.b ai.e∧oD bn ai∧ix ai∧pM ⟨w,ν,fp ν s,0,cO s⟩ w' bn):=by rintro e w' ⟨v,r,ai,bn,bz,a2,a3⟩;exact⟨v,r,ai,bn,bz,bp _ _ a2,a3⟩
 rcases h w ν ba J U al with⟨p3,aw⟩|⟨v,w',aw,aJ⟩
 ·exact .inl ⟨p3,aw.mono hm⟩
 ·exact .inr ⟨v,w',aw,hm _ _ aJ⟩
theorem BX{s:cF}{k:aD}(h:inObs s k):¬fresh 0 (cO s) k:=fun aI=>aI.2 (sk h)
theorem ig.ob{s:cF}(ag:ee s){st:bo}{dD:List (Nat×ah)}(aO:∀x∈dD,get x.1 st.t=x.2∧aB (inObs s) x.2)(ae:∀k cs,look k s.b=some cs→look k st.b=some cs)(he:∀k o,look k s.e=some o→look k st.e=some o):
  ig (cO s) st ⟨dD,s.b,s.e,0,cO s⟩:=
 ⟨fun x ad=>⟨(aO x ad).1,vc (fun k ab=>BX ab) _ (aO x ad).2⟩,fun k cs aw=>⟨ae k cs aw,BX (.inl (by simp[aw])),jw (fun k ab=>BX ab) _ (ag.kb k cs aw)⟩,
  fun k o av=>⟨he k o av,BX (.inr (by simp[av])),fun xs ad=>jw (fun k ab=>BX ab) _ (ag.ke k o av xs ad)⟩,fun m hm=>hm⟩
def cT(st:bo)(fa:List bK)(R:ah→Prop):Prop:=match aV st fa with
 |some (c,cm)=>c∧R (dn (aU cm))
 |none=>eI
theorem cN.at{fa:List bK}{s:cF}{Q:ah→cF→Prop}{e:Exit}{st:bo}(ai:cF)(te:e= .ret∨e= .normal)(ag:ee ai)(e4:Same s ai)(ae:∀k cs,look k ai.b=some cs→look k st.b=some cs)(ds:∀k o,look k ai.e=some o→look k st.e=some o)
  (h:cT st fa fun r=>aB (inObs ai) r∧Q r ai):cN fa s Q e st:=by
 unfold cT at h;split at h
 ·rename_i c cm aJ;exact cN.ob te aJ h.1 ag e4 ae ds h.2.1 h.2.2
 ·exact h.elim
theorem hO.ob{P:cy}{nw:List Nat}{n:Nat}{args:List ah}{st:bo}{d:aW Nat}{K:bo→Prop}{s ai:cF}{r:ah}(aI:bJ P n args s fun ev dD=>ev=r∧dD=ai)(ag:ee s)(fX:ee ai)(e4:Same s ai)(ae:∀k cs,look k s.b=some cs→look k st.b=some cs)(he:∀k o,look k s.e=some o→look k st.e=some o)
  (ab:aH (inObs s) args) (h:K ⟨eC d r st.t,cu s.b st.b++ai.b,cu s.e st.e++ai.e,st.n,st.o⟩):hO P false nw n args st d K:=
 .inr ⟨s,ai,r,none,fun k cs aw=>⟨ae k cs aw,.inl (by simp[aw]),ag.kb k cs aw⟩,fun k o av=>⟨he k o av,.inr (by simp[av]),ag.ke k o av⟩,ag.obj,fX.obj,⟨fun k ab=>.inl (by rw[e4.b];exact ab),fun k ab=>.inl (by rw[e4.e];exact ab),fun k ab=>by rw[←e4.b];exact ab,fun k ab=>by rw[←e4.e];exact ab,fun k ab=>by cases ab⟩,ab,aI,(fun e=>by cases e),h⟩
theorem ee.of{s:cF}(av:ix s)(ae:∀x∈s.b,aH (inObs s) x.2)(he:∀x∈s.e,∀xs,x.2.xs=some xs→aH (inObs s) xs):ee s:=⟨av,fun k cs ab=>ae (k,cs) (se ab),fun k o ab xs ad=>he (k,o) (se ab) xs ad⟩
@[simp] theorem an2(b:List (aD×List ah))(e:List (aD×fF)):cO ⟨b,e⟩=b.map (·.1)++e.map (·.1):=rfl
theorem zX{α:Type}{k:aD}{p:α}:∀{a r:List (aD×α)},look k a=none→cw k p (a++r)=a++cw k p r
 |[],_,_=>rfl
 |(i,y)::a,r,h=>by
  simp only[look]at h;split at h
  ·cases h
  ·rename_i cC;simp[cw,cC,zX h]
theorem ad7{α:Type}{s b:List (aD×α)}(h:∀p∈s,look p.1 b=some p.2):∀k x,look k s=some x→look k b=some x:=fun k x ad=>h (k,x) (se ad)
theorem eh{S:aD→Prop}{bY b:List (aD×List ah)}(h:∀p∈bY,look p.1 b=some p.2∧S p.1∧aH S p.2):gu S bY b:=fun k x ad=>h (k,x) (se ad)
theorem ei{S:aD→Prop}{bY b:List (aD×fF)}(h:∀p∈bY,look p.1 b=some p.2∧S p.1∧dN S p.2):n4 S bY b:=fun k x ad=>h (k,x) (se ad)
theorem aQ{α:Type}{s b:List (aD×α)}(h:∀k x,look k s=some x→look k b=some x:=by first|(refine ad7 ?_;simp;done)|(intro k x ad;first|exact ad|(simp[ad,gH];done)|(simp[cE,gH,ad];done)|(cases k<;>simp_all[cE];done))):∀k x,look k s=some x→look k b=some x:=h
theorem b4{ob:List aD}{st st':bo}(J:∀x∈st'.t,get x.1 st.t=x.2∧aB (fun k=> ¬fresh st'.n st'.o k) x.2:=by simp[fresh,aH,aB,cf,inObs,Pv.look])(U:∀p∈st'.b,look p.1 st.b=some p.2∧(¬fresh st'.n st'.o p.1)∧aH (fun k=> ¬fresh st'.n st'.o k) p.2:=by simp[fresh,aH,aB,cf,inObs,Pv.look])(al:∀p∈st'.e,look p.1 st.e=some p.2∧(¬fresh st'.n st'.o p.1)∧dN (fun k=> ¬fresh st'.n st'.o k) p.2:=by simp[fresh,aH,aB,dN,inObs,Pv.look])(a6:∀m∈ob,m∈st'.o:=by simp):ig ob st st':=⟨J,eh U,ei al,a6⟩
theorem bL.next{ob:List aD}{gK:Nat→bo→Prop}{k:Nat}{Q:Exit→bo→Prop}{st:bo}(bH:Nat){ai:bo}(ab:bH<k)(hi:gK bH ai)(hw:ig ob st ai):bL ob gK k Q .normal st:=⟨bH,ai,ab,hw,hi⟩
def jY:List (Int×ah)→List ah
 |[]=>[]
 |(k,v)::r=>.int .i64 k::v::jY r
def jn(l:List (Int×ah)):List ah:= .hdm l.length (List.range l.length)::jY l
def vZ(k:Int):List (Int×ah)→aW ah
 |[]=>none
 |(i,v)::r=>if k=i then some v else vZ k r
def ot(k:Int)(v:ah):List (Int×ah)→aW (List (Int×ah))
 |[]=>none
 |(i,w)::r=>if k=i then some ((k,v)::r)else match ot k v r with|some ev=>some ((i,w)::ev)|none=>none
def C4(k:Int)(v:ah)(l:List (Int×ah)):List (Int×ah):=match ot k v l with|some aX=>aX|none=>l++[(k,v)]
@[simp] theorem anL:[ah.hdm 0 []]=jn []:=rfl
theorem Pt:∀a b,jY (a++b)=jY a++jY b
 |[],_=>rfl
 |(k,v)::r,b=>by simp[jY,Pt r b]
theorem Su(k:Int):∀l,vi .i (.int .i64 k) (jY l)=some (vZ k l)
 |[]=>rfl
 |(i,v)::r=>by
  simp only[jY,vi,sb,vZ];by_cases h:k=i
  ·simp[h]
  ·have:(k==i)=false:=by simp[h]
   simp[h,Su k r,this]
theorem Me{k:Int}{v:ah}:∀{l aX},ot k v l=some aX→aX.length=l.length
 |[],_,h=>by simp[ot]at h
 |(i,w)::r,aX,h=>by
  simp only[ot]at h;split at h
  ·cases h;rfl
  ·split at h
   ·rename_i ev aJ;cases h;simp[Me aJ]
   ·cases h
theorem SG(k:Int)(v:ah):∀l,tK .i (.int .i64 k) v (jY l)=some ((ot k v l).map jY)
 |[]=>rfl
 |(i,w)::r=>by
  simp only[jY,tK,sb,ot];by_cases h:k=i
  ·subst h;simp[jY]
  ·simp only[and_self,if_true,h,if_false,dG,SG k v r];have:(k==i)=false:=by simp[h]
   rw[this];cases ot k v r<;>simp[jY]
@[simp] theorem SF(k:Int)(v:ah)(l:List (Int×ah)):nX .i (.int .i64 k) v (jn l)=some (jn (C4 k v l)):=by
 simp only[jn,nX,RF,Bool.true_eq_false,reduceCtorEq,if_false,SG,C4];cases h:ot k v l with
 |some aX=>simp[Me h]
 |none=>simp[Pt,jY,List.range_succ]
@[simp] theorem aey(f:aD→aW (List ah))(m:aD)(l:List (Int×ah))(z:ah)(ok:Bool)(k:Int)(hm:f m=some (jn l)):nk f .i z ok (.gmap m) (.int .i64 k)=(match vZ k l with
  |some v=>some (True,if ok then .tuple [v,.bool true]else v)
  |none=>some (True,if ok then .tuple [z,.bool false]else z)):=by
 simp only[Sw,hm,jn,RF,Bool.true_eq_false,reduceCtorEq,if_false,Su];cases vZ k l<;>rfl
@[simp] theorem aeQ(f:aD→aW (List ah))(m:aD)(l:List (Int×ah))(hm:f m=some (jn l)):tJ f (.gmap m)=some (True,.int .i64 l.length):=by simp[aeP,hm,jn]
def cf(n:Nat)(seen:List Nat)(m:aD):List ah:=[.hdi n seen n,.gmap m]
@[simp] theorem aot(m:aD)(l:List (Int×ah)):vw m (jn l)=some (cf l.length [] m):=rfl
@[simp] theorem aob(l:List (Int×ah)):hF (jn l)=false:=rfl
theorem Jw(b:Nat):∀(n:Nat) (l:List (Int×ah)),l7 b (List.range' n l.length) (jY l)=(if n≤b then(l[b-n]?).map fun x=>.tuple [.int .i64 x.1,x.2]else none)
 |n,[]=>by simp[l7,jY]
 |n,(k,v)::r=>by
  simp only[pK,List.range'_succ,jY,l7];by_cases h:n=b
  ·subst h;simp
  ·rw[if_neg h,Jw b (n+1) r];by_cases U:n≤b
   ·rw[if_pos U,if_pos (by omega)];have:b-n=(b-(n+1))+1:=by omega
    rw[this];simp
   ·rw[if_neg U,if_neg (by omega)]
@[simp] theorem Ss(f:aD→aW (List ah))(fb mk:aD)(n:Nat)(seen:List Nat)(b:Nat)(l:List (Int×ah))(hi:f fb=some (cf n (seen++[b]) mk))(hm:f mk=some (jn l))(aA:n=l.length):oN f (.ptr fb 0)=(l[b]?).map fun x=>(True,.tuple [.int .i64 x.1,x.2]):=by subst aA;simp only[St,hi,hm,cf,jn,List.getLast?_append,List.getLast?_singleton,Option.some_or,List.range_eq_range',Jw,Nat.zero_le,if_true,Nat.sub_zero,Option.map_map];cases l[b]?<;>simp
theorem O3{st:bo}{d:Nat}{K:bo→Prop}{fb mk:aD}{n:Nat}{seen:List Nat}{l:List (Int×ah)}(hi:look fb st.b=some (cf n seen mk))(hm:look mk st.b=some (jn l))(aA:n=l.length)
  (J:(∀b,b<n→b∈seen)→K {st with t:=put d (.tuple [.bool false]) st.t}) (U:∀b k v,l[b]? =some (k,v)→b∉seen→K {st with t:=put d (.tuple [.bool true,.int .i64 k,v]) st.t,b:=cw fb (cf n (seen++[b]) mk) st.b}):
  rP st d (.ptr fb 0) K:=by
 subst aA;simp only[rP,hi,cf,hm,jn,JK,and_self,true_and];refine⟨fun h=>J fun b ae=>h b (by simpa using ae),fun b k v wQ ae=>?_⟩;rw[List.range_eq_range',Jw]at wQ;simp only[Nat.zero_le,if_true,Nat.sub_zero,gA,ah.tuple.injEq,pI,and_true]at wQ;obtain⟨⟨bH,v'⟩,aj,aC,bg⟩:=wQ;simp only at aC bg;subst aC bg;exact U b bH v' aj ae
theorem ag3{n:Nat}{seen:List Nat}(aP:seen.Nodup)(bu:∀b∈seen,b<n)(kX:∀b,b<n→b∈seen):seen.Perm (List.range n):=(List.perm_ext_iff_of_nodup aP List.nodup_range).2 fun b=>⟨fun h=>by simpa using bu b h,fun h=>kX b (by simpa using h)⟩
theorem FK{n:Nat}{seen:List Nat}(aP:seen.Nodup)(bu:∀b∈seen,b<n):seen.length≤n:=by have:=LM aP (l₂:=List.range n) (fun b ae=>by simpa using bu b ae);simpa using this
theorem KW{n b:Nat}{seen:List Nat}(aP:seen.Nodup)(bu:∀b∈seen,b<n)(ae:b<n)(aA:b∉seen):seen.length<n:=by have J:(b::seen).Nodup:=List.nodup_cons.2 ⟨aA,aP⟩;have:=FK J (n:=n) (by simp;exact⟨ae,bu⟩);simp at this;omega
theorem T0{α:Type}:∀(l pre:List α),(List.range' pre.length l.length).filterMap (fun b=>(pre++l)[b]?)=l
 |[],_=>rfl
 |x::r,pre=>by have bM:=T0 r (pre++[x]);simp only[oV,List.length_singleton,List.append_assoc,List.singleton_append]at bM;simp[List.range'_succ,bM]
theorem KV{α:Type}{l:List α}{seen:List Nat}(aP:seen.Nodup)(bu:∀b∈seen,b<l.length)(kX:∀b,b<l.length→b∈seen):(seen.filterMap fun b=>l[b]?).Perm l:=by have J:=(ag3 aP bu kX).filterMap fun b=>l[b]?;have U:=T0 l [];simp only[List.length_nil,bT,←List.range_eq_range']at U;rwa[U]at J
theorem JO{b:Nat}{seen:List Nat}(aP:seen.Nodup)(aA:b∉seen):(seen++[b]).Nodup:=by rw[List.nodup_append];exact⟨aP,by simp,by simp;intro a bD e;subst e;exact aA bD⟩
theorem cJ.start{w:World}{ν:bc}{s:cF}{args:List ah}{ba:Array Value}(oK:ix s)(a1:Good (fp ν s) w ν s.b s.e)(ad:oD ν s)(aJ:cH w ν args ba.toList):
  cJ ⟨w,ν,fp ν s,ba.size,cO s⟩ ⟨jR 0 args,s.b,s.e,0,cO s⟩ {tmps:=ba,defers:=[]} w ν:=by
 have pc:=Cn aJ;have kp:ba.size=args.length:=by simpa using pc
 have nO:∀k,fresh 0 (cO s) k→ν.bx k=none∧ν.ow k=none∧∀j b,¬ν.tr k j b:=by
  intro k ab;cases k with
  |loc m=>exact⟨(ad _).1 (oK.1 m),(ad _).2.1 (oK.2 m),(ad _).2.2⟩
  |obj m=>
   simp only[fresh,true_and]at ab;refine⟨?_,?_,(ad _).2.2⟩
   ·refine(ad _).1 ?_;cases h:look (.obj m) s.b with
    |none=>rfl
    |some x=>exact absurd (sk (.inl (by simp[h]))) ab
   ·refine(ad _).2.1 ?_;cases h:look (.obj m) s.e with
    |none=>rfl
    |some x=>exact absurd (sk (.inr (by simp[h]))) ab
 have iT:∀m,(ν.bx (.obj m)≠none∨ν.ow (.obj m)≠none)→ .obj m∈cO s:=by
  intro m hm;refine Classical.byContradiction fun aw=>?_;obtain⟨J,U,_⟩:=nO (.obj m) ⟨trivial,aw⟩;rcases hm with hm|hm
  ·exact hm J
  ·exact hm U
 refine⟨⟨a1.alt,fun k cs ab=>?_,a1.inj,fun g o eM=>?_,a1.oinj,a1.obx,a1.one,a1.otr⟩,⟨rfl,rfl,rfl,eQ _,fun _ _ _=>rfl,fun b o h=>⟨h,rfl⟩,fun b o h=>.inl h,fun n b h=>h,fun n b h=>iT n (.inl (by rw[h];simp)),fun m n u h=>⟨n,u,h,.inl ⟨rfl,rfl⟩⟩,fun m n u h=>iT m (.inr (by rw[h];simp)),fun k j _ _ b h=>absurd h ((ad k).2.2 j b),fun k j b h=>absurd h ((ad k).2.2 j b),fun k j b h=>absurd h ((ad k).2.2 j b),fun _ _ _=>rfl⟩,rfl,rfl,fun i=>?_,nO⟩
 ·obtain⟨bl,us,el,g1,g2,g3⟩:=a1.box k cs ab;exact⟨bl,us,el,g1,.inl g2,g3⟩
 ·obtain⟨v,us,g1,g2,g3,g4⟩:=a1.own g o eM;exact⟨v,us,g1,g2,fun bl fs=>⟨.inl (g3 bl fs).1,(g3 bl fs).2⟩,g4⟩
 ·rw[HT];by_cases hi:i<args.length
  ·rw[if_pos (by omega)];have tj:args[i]? =some args[i]:=ca hi;obtain⟨v,aj,aC⟩:=FC i aJ tj;have Hh:ba[i]? =some v:=by simpa using aj
   show a7 w ν _ (ba.getD i undef);rw[Array.getD_eq_getD_getElem?,Hh];simpa[List.getD,tj]using aC
  ·rw[if_neg (by omega)];simp[a7]
theorem bJ.sem{P:cy}{f:FuncId}{args:List ah}{s:cF}{Q:ah→cF→Prop}(oK:ix s)
  (h:∀(w:World) (ν:bc) (ba:Array Value),ba.size=args.length→cJ ⟨w,ν,fp ν s,ba.size,cO s⟩ ⟨jR 0 args,s.b,s.e,0,cO s⟩ {tmps:=ba,defers:=[]} w ν→
   vP P f ba w fun e w'=> ∃v st' bj bn r ai,e= .returned v∧cJ ⟨w,ν,fp ν s,ba.size,cO s⟩ st' bj w' bn∧a7 w' bn r v∧lE ai s.b∧lE ai s.e∧gu (inObs ai) ai.b st'.b∧n4 (inObs ai) ai.e st'.e∧ix ai∧aB (inObs ai) r∧Q r ai):bJ P f args s Q:=by
 intro w ν ba a1 ad aJ;have kp:ba.size=args.length:=by simpa using Cn aJ
 have pa:=cJ.start oK a1 ad aJ;have hm:∀(e:Ending) (w':World),(∃v st' bj bn r ai,e= .returned v∧cJ ⟨w,ν,fp ν s,ba.size,cO s⟩ st' bj w' bn∧a7 w' bn r v∧lE ai s.b∧lE ai s.e∧gu (inObs ai) ai.b st'.b∧n4 (inObs ai) ai.e st'.e∧ix ai∧aB (inObs ai) r∧Q r ai)→
   ∃v r ai bn,e= .returned v∧Q r ai∧a7 w' bn r v∧Good (fun bl=>fp ν s bl∨w.heap.size≤bl) w' bn ai.b ai.e∧oD bn ai∧ix ai∧pM ⟨w,ν,fp ν s,0,cO s⟩ w' bn:=by
  rintro e w' ⟨v,st',bj,bn,r,ai,rfl,dx,nY,kb,ke,aZ,bB,bQ,cS,c6⟩;refine⟨v,r,ai,bn.cut (inObs ai),rfl,c6,tW (oj.cut _ w' bn) _ _ cS nY,dx.good.cut aZ bB (fun bl h _=>h),?_,bQ,?_⟩
  ·intro k;refine⟨?_,?_,?_⟩;rotate_left 2
   ·rintro j b ⟨ag,ae⟩;obtain⟨t1,t2⟩:=dx.fr.trn k j b ae;rcases ag with ag|ag<;>obtain⟨x,hU⟩:=fE.1 ag
    ·obtain⟨bl,cb,el,aj,_⟩:=dx.good.box k x (aZ k x hU).1;rw[t1]at aj;cases aj
    ·obtain⟨v',cb,aj,_⟩:=dx.good.own k x (bB k x hU).1;rw[t2]at aj;cases aj
   ·intro ab;by_cases ag:inObs ai k
    ·rw[bc.cut_bx ag];rcases ag with ag|ag
     ·rw[ab]at ag;cases ag
     ·obtain⟨x,hU⟩:=fE.1 ag;obtain⟨v',cb,aj,_⟩:=dx.good.own k x (bB k x hU).1;rcases dx.good.one k with J|J
      ·exact J
      ·rw[J]at aj;cases aj
    ·exact(bc.cut_no ag).1
   ·intro ab;by_cases ag:inObs ai k
    ·rw[bc.cut_ow ag];rcases ag with ag|ag
     ·obtain⟨x,hU⟩:=fE.1 ag;obtain⟨bl,cb,el,aj,_⟩:=dx.good.box k x (aZ k x hU).1;rcases dx.good.one k with J|J
      ·rw[J]at aj;cases aj
      ·exact J
     ·rw[ab]at ag;cases ag
    ·exact(bc.cut_no ag).2.1
  ·refine⟨dx.fr.os,dx.fr.tape,dx.fr.output,dx.fr.size,dx.fr.block,dx.fr.keep,dx.fr.fresh,fun n b h=>?_,dx.fr.obn,fun m n u h=>?_,dx.fr.obr,fun k j bH du b J U=>dx.fr.trd k j bH du b J.2 U.2,fun k j b ae=>dx.fr.trb k j b ae.2,fun k j b ae=>(by rw[bc.cut_bx ae.1,bc.cut_ow ae.1];exact dx.fr.trn k j b ae.2),dx.fr.sh⟩
   ·have ag:inObs ai (.obj n):=by
     cases au:look (.obj n) s.b with
     |none=>rw[(ad _).1 au]at h;cases h
     |some x=>exact y3 kb _ (by simp[au])
    rw[bc.cut_bx ag];exact dx.fr.obj n b h
   ·have ag:inObs ai (.obj m):=by
     cases au:look (.obj m) s.e with
     |none=>rw[(ad _).2.1 au]at h;cases h
     |some x=>exact y3 ke _ (by simp[au])
    rw[bc.cut_ow ag];exact dx.fr.row m n u h
 rcases h w ν ba kp pa with⟨p3,aw⟩|⟨v,w',aw,wU⟩
 ·exact .inl ⟨p3,aw.mono hm⟩
 ·exact .inr ⟨v,w',aw,hm _ _ wU⟩
theorem cJ.grown{C:e7}{st:bo}{a:Act}{w w':World}{ν:bc}(h:cJ C st a w ν)(a1:w.grownBy w' none):cJ C st a w' ν:=by
 have ko:kT w ν w' ν:=⟨fun b o bd=>⟨bd,Dq a1 (h.good.alt b o bd)⟩,fun _ _ _ h=>h,fun _ n u _ h=>⟨n,u,h,.inl ⟨rfl,rfl⟩⟩,fun b o bd=>vB (a1.block b (h.good.alt b o bd) (by simp)),fun _ _ _ _ h=>h⟩;refine h.over ko rfl ⟨fun b o bd=>Nat.lt_of_lt_of_le (h.good.alt b o bd) a1.size,fun k cs ab=>?_,h.good.inj,fun g o eM=>?_,h.good.oinj,h.good.obx,h.good.one,h.good.otr⟩
  ⟨a1.os.trans h.fr.os,a1.tape.trans h.fr.tape,a1.output.trans h.fr.output,jT h.fr.size a1.size,fun k ab hm=>?_,fun b o bd=>?_,h.fr.fresh,h.fr.obj,h.fr.obn,h.fr.row,h.fr.obr,h.fr.trd,fun k j b ae=>⟨(h.fr.trb k j b ae).1,Nat.lt_of_lt_of_le (h.fr.trb k j b ae).2 a1.size⟩,h.fr.trn,fun b o bd=>(ko.sh b o (h.fr.keep b o bd).1).trans (h.fr.sh b o bd)⟩ h.new
 ·obtain⟨bl,us,el,g1,g2,g3,g4,g5⟩:=h.good.box k cs ab;exact⟨bl,us,el,g1,g2,g3,by rw[a1.block bl (Array.getElem?_eq_some_iff.1 g4).1 (by simp)];exact g4,pB ko g5⟩
 ·obtain⟨v,us,g1,g2,g3,g4⟩:=h.good.own g o eM;exact⟨v,us,g1,g2.kept a1 (by cases v.ownBlock<;>simp),g3,rj ko (fun _ _ _ h=>h) g4⟩
 ·rw[a1.block k (Nat.lt_of_lt_of_le ab h.fr.size) (by simp)];exact h.fr.block k ab hm
 ·obtain⟨a8,bU⟩:=h.fr.keep b o bd;exact⟨a8,(ko.A b o a8).2.trans bU⟩
theorem c2.new{P:cy}{n:Nat}{args:List ah}{st:bo}{d:aW Nat}{K:bo→Prop}{s:cF}{Q:ah→cF→Prop}(aI:bJ P n args s Q)(ag:ee s)(ae:∀k cs,look k s.b=some cs→look k st.b=some cs)(he:∀k o,look k s.e=some o→look k st.e=some o)
  (ab:aH (inObs s) args) (h:∀r ai,Q r ai→(∀m,inObs ai (.obj m)→inObs s (.obj m)∧Same s ai∨ .obj m∉st.o)∧K ⟨eC d r st.t,cu s.b st.b++ai.b,cu s.e st.e++ai.e,st.n,st.o++cO ai⟩):c2 P n args st d K:=by
 refine .inl ⟨s,Q,fun k cs aw=>⟨ae k cs aw,.inl (by simp[aw]),ag.kb k cs aw⟩,fun k o av=>⟨he k o av,.inr (by simp[av]),ag.ke k o av⟩,ag.obj,ab,aI,fun r ai bp=>?_⟩;obtain⟨J,U⟩:=h r ai bp;refine⟨⟨fun m hm=>?_,fun m hm=>?_⟩,U⟩
 ·rcases J m (.inl hm)with⟨_,al⟩|al
  ·exact .inl (by rw[al.b];exact hm)
  ·exact .inr al
 ·rcases J m (.inr hm)with⟨_,al⟩|al
  ·exact .inl (by rw[al.e];exact hm)
  ·exact .inr al
theorem cN.new{fa:List bK}{s:cF}{Q:ah→cF→Prop}{e:Exit}{st:bo}(ai:cF)(te:e= .ret∨e= .normal)(ag:ee ai)(e4:lE ai s.b∧lE ai s.e)(ae:∀k cs,look k ai.b=some cs→look k st.b=some cs)(ds:∀k o,look k ai.e=some o→look k st.e=some o)
  (h:cT st fa fun r=>aB (inObs ai) r∧Q r ai):cN fa s Q e st:=by
 unfold cT at h;split at h
 ·rename_i c cm aJ;refine⟨te,?_⟩;rw[aJ];exact⟨h.1,ai,e4.1,e4.2,fun k cs dj=>⟨ae k cs dj,.inl (by simp[dj]),ag.kb k cs dj⟩,fun k o av=>⟨ds k o av,.inr (by simp[av]),ag.ke k o av⟩,ag.obj,h.2.1,h.2.2⟩
 ·exact h.elim
@[simp] theorem alI{P:cy}{ob:List aD}{c d:C}{Q:Exit→bo→Prop}{st:bo}{s:Nat}:cR P ob (.seq (.pub s c) d) Q st=vT P ob (.seq c d) Q (vs st s):=by simp only[cR];cases vs st s<;>rfl
@[simp] theorem alH{P:cy}{ob:List aD}{c d:C}{Q:Exit→bo→Prop}{st:bo}{s:Nat}:cR P ob (.seq (.pubB s c) d) Q st=vT P ob (.seq c d) Q (vr st s):=by simp only[cR];cases vr st s<;>rfl
end Go.Pv
namespace Go.Pv
open Go Go.RowKit
def tw(t:List (Nat×ah))(b7:List Nat):List (Nat×ah):=b7.map fun k=>(k,get k t)
@[simp] theorem amM(t:List (Nat×ah)):tw t []=[]:=rfl
@[simp] theorem amL(t:List (Nat×ah))(k:Nat)(b7:List Nat):tw t (k::b7)=(k,get k t)::tw t b7:=rfl
def oO(st:bo)(b7:List Nat)(cs:List (Nat×ah)):bo:=⟨tw st.t b7++cs,st.b,st.e,st.n,st.o⟩
theorem aeN(t:List (Nat×ah))(b:List (aD×List ah))(e:List (aD×fF))(n:Nat)(o:List aD)(b7:List Nat)(cs:List (Nat×ah)):oO ⟨t,b,e,n,o⟩ b7 cs=⟨tw t b7++cs,b,e,n,o⟩:=rfl
def xW{α:Type}(S:Nat→α→bo)(n:Nat)(gB:Nat→α→Prop)(k:Nat)(st:bo):Prop:= ∃i a,i≤n∧k=n-i∧gB i a∧st=S i a
section
variable {P:cy} {ob:List aD} {st:bo} {Q:Exit→bo→Prop} {c:C} {α:Type}
theorem ik(S:Nat→α→bo)(n:Nat)(gB:Nat→α→Prop)(a0:α)(hw:ig ob st (S 0 a0))(bs:gB 0 a0)(uN:∀a,gB n a→(∀i,ej (get i (S n a).t))→cR P ob c (bL ob (xW S n gB) 0 Q) (S n a))
  (jk:∀i a,i<n→gB i a→(∀j,ej (get j (S i a).t))→cR P ob c (bL ob (xW S n gB) (n-i) Q) (S i a)):cR P ob (.loop c) Q st:=by
 refine s5 (xW S n gB) n _ hw ⟨0,a0,by omega,by omega,bs,rfl⟩ ?_;rintro k s ⟨i,a,hi,rfl,af,rfl⟩ ae _;rcases Nat.lt_or_ge i n with h|h
 ·exact jk i a h af ae
 ·obtain rfl:i=n:=by omega
  rw[Nat.sub_self];exact uN a af ae
theorem bL.rng{S:Nat→α→bo}{n:Nat}{gB:Nat→α→Prop}{i:Nat}(bj:α)(hi:i<n)(af:gB (i+1) bj)(hw:ig ob st (S (i+1) bj)):bL ob (xW S n gB) (n-i) Q .normal st:=⟨n-(i+1),_,by omega,hw,i+1,bj,by omega,rfl,af,rfl⟩
def Aa{α:Type}(S:α→bo)(me:α→Nat)(gB:α→Prop)(k:Nat)(st:bo):Prop:= ∃a,k=me a∧gB a∧st=S a
theorem nH(S:α→bo)(me:α→Nat)(gB:α→Prop)(a0:α)(hw:ig ob st (S a0))(bs:gB a0)
  (jk:∀a,gB a→(∀j,ej (get j (S a).t))→cR P ob c (bL ob (Aa S me gB) (me a) Q) (S a)):cR P ob (.loop c) Q st:=by
 refine s5 (Aa S me gB) (me a0) _ hw ⟨a0,rfl,bs,rfl⟩ ?_;rintro k s ⟨a,rfl,af,rfl⟩ ae _;exact jk a af ae
theorem bL.whl{S:α→bo}{me:α→Nat}{gB:α→Prop}{k:Nat}(bj:α)(hm:me bj<k)(af:gB bj)(hw:ig ob st (S bj)):bL ob (Aa S me gB) k Q .normal st:=⟨me bj,_,hm,hw,bj,rfl,af,rfl⟩
end
theorem hM{p:Prop}(h:p:=by(try simp[*]);(repeat' first|with_reducible refine ak ?_|with_reducible refine aE (by assumption) ?_|with_reducible refine aF (by assumption) ?_|simp[*]);(all_goals first|exact bL.rng () (by assumption) (by first|assumption|trivial) b4|exact bL.rng _ (by assumption) (by assumption) b4)):p:=h
end Go.Pv
namespace Go.Pv
open Go Go.RowKit
def lF(s:cF)(n:Nat)(k:aD):Prop:=inObs s k∨ ∃m,m<n∧k= .loc m
@[simp] theorem SI(s:cF)(n m:Nat)(hm:m<n):lF s n (.loc m):= .inr ⟨m,hm,rfl⟩
theorem zj{s:cF}{n:Nat}{l:List ah}(h:aH (inObs s) l):aH (lF s n) l:=jw (fun _ h=>.inl h) l h
theorem xg{s ai:cF}(e4:Same s ai){n:Nat}{k:aD}(h:lF ai n k):¬fresh n (cO s) k:=by
 rcases h with h|⟨m,hm,rfl⟩
 ·exact fun aI=>aI.2 (sk ((e4.inObs k).2 h))
 ·intro aI;have:=aI.1;simp at this;omega
theorem ig.obL{s ai:cF}(fX:ee ai)(e4:Same s ai){st:bo}{dD:List (Nat×ah)}{L:List (aD×List ah)}{n:Nat}(aO:∀x∈dD,get x.1 st.t=x.2∧aB (lF ai n) x.2)(jg:∀x∈L,look x.1 st.b=some x.2∧lF ai n x.1∧aH (lF ai n) x.2)
  (ae:∀k cs,look k ai.b=some cs→look k st.b=some cs) (he:∀k o,look k ai.e=some o→look k st.e=some o):ig (cO s) st ⟨dD,L++ai.b,ai.e,n,cO s⟩:=by
 refine⟨fun x ad=>⟨(aO x ad).1,vc (fun k ab=>xg e4 ab) _ (aO x ad).2⟩,fun k cs ab=>?_,fun k o av=>?_,fun m hm=>hm⟩
 ·simp only at ab;rw[cE]at ab;cases au:look k L with
  |some x=>rw[au]at ab;simp only[dz]at ab;subst ab;obtain⟨J,U,al⟩:=jg _ (se au);exact⟨J,xg e4 U,jw (fun k ab=>xg e4 ab) _ al⟩
  |none=>rw[au]at ab;exact⟨ae k cs ab,xg e4 (.inl (.inl (by simp[ab]))),jw (fun k ab=>xg e4 (.inl ab)) _ (fX.kb k cs ab)⟩
 ·exact⟨he k o av,xg e4 (.inl (.inr (by simp at av;simp[av]))),fun xs ad=>jw (fun k ab=>xg e4 (.inl ab)) _ (fX.ke k o av xs ad)⟩
def gQ{α:Type}(l:List α)(i j:Nat):List α:=match l[i]?,l[j]? with
 |some x,some y=>(l.set i y).set j x
 |_,_=>l
section
variable {α:Type}
@[simp] theorem aeh(l:List α)(i j:Nat):(gQ l i j).length=l.length:=by unfold gQ;split<;>simp
theorem y9(l:List α)(i j k:Nat)(hi:i<l.length)(af:j<l.length):(gQ l i j)[k]? =if k=i then l[j]? else if k=j then l[i]? else l[k]?:=by
 unfold gQ;rw[ca hi,ca af];simp only[List.getElem?_set,List.length_set];by_cases J:j=k
 ·subst J;by_cases U:j=i
  ·subst U;simp[hi]
  ·simp[U,af]
 ·by_cases U:i=k
  ·subst U;simp[J,hi]
  ·simp[J,U,ky J,ky U]
theorem Sg(l:List α)(i j:Nat):(gQ l i j).Perm l:=by
 unfold gQ;split
 ·rename_i x y ad aL;obtain⟨hi,rfl⟩:=fH.1 ad;obtain⟨af,rfl⟩:=fH.1 aL;exact List.set_set_perm hi af
 ·exact .refl _
inductive gd (a b:Nat):List α→List α→Prop
 |refl (l:List α):gd a b l l
 |step {l m:List α} {i j:Nat}:gd a b l m→a≤i→i<b→a≤j→j<b→i<m.length→j<m.length→gd a b l (gQ m i j)
theorem gd.length{a b:Nat}{l m:List α}(h:gd a b l m):m.length=l.length:=by
 induction h with
 |refl=>rfl
 |step _ _ _ _ _ _ _ bM=>rw[aeh,bM]
theorem gd.perm{a b:Nat}{l m:List α}(h:gd a b l m):m.Perm l:=by
 induction h with
 |refl=>exact .refl _
 |step _ _ _ _ _ _ _ bM=>exact(Sg _ _ _).trans bM
theorem gd.out{a b:Nat}{l m:List α}(h:gd a b l m)(k:Nat)(ab:k<a∨b≤k):m[k]? =l[k]?:=by
 induction h with
 |refl=>rfl
 |step _ J U al a6 bW c3 bM=>rw[y9 _ _ _ _ bW c3,if_neg (by omega),if_neg (by omega)];exact bM
theorem gd.all{a b:Nat}{l m:List α}(h:gd a b l m)(p:α→Prop)(bF:∀k x,a≤k→k<b→l[k]? =some x→p x):∀k x,a≤k→k<b→m[k]? =some x→p x:=by
 induction h with
 |refl=>exact bF
 |step _ J U al a6 bW c3 bM=>
  intro k x gg kF ad;rw[y9 _ _ _ _ bW c3]at ad;split at ad
  ·exact bM _ _ al a6 ad
  ·split at ad
   ·exact bM _ _ J U ad
   ·exact bM _ _ gg kF ad
theorem gd.trans{a b:Nat}{l m r:List α}(h:gd a b l m)(cp:gd a b m r):gd a b l r:=by
 induction cp with
 |refl=>exact h
 |step _ J U al a6 bW c3 bM=>exact .step bM J U al a6 bW c3
theorem gd.mono{a b bj bY:Nat}{l m:List α}(h:gd a b l m)(bD:bj≤a)(ae:b≤bY):gd bj bY l m:=by
 induction h with
 |refl=>exact .refl _
 |step _ J U al a6 bW c3 bM=>exact .step bM (by omega) (by omega) (by omega) (by omega) bW c3
def e3(lt:α→α→Bool)(a b:Nat)(l:List α):Prop:= ∀i j x y,a≤i→i<j→j<b→l[i]? =some x→l[j]? =some y→lt y x=false
structure pN (lt:α→α→Bool):Prop where
 asym:∀x y,lt x y=true→lt y x=false
 ntr:∀x y z,lt y x=false→lt z y=false→lt z x=false
theorem e3.pairwise{lt:α→α→Bool}{l:List α}(h:e3 lt 0 l.length l):l.Pairwise fun x y=>lt y x=false:=by rw[oX];intro i j hi af ly;exact h i j _ _ (by omega) ly af (ca hi) (ca af)
def hH(a m b k:Nat):Nat:=if k<a then k else if k<a+(b-m)then k+(m-a)else if k<b then k-(b-m)else k
def rl(a b c k:Nat):Nat:=if a≤k∧k<a+c then b+(k-a)else if b≤k∧k<b+c then a+(k-b)else k
end
theorem DR(i j:Nat)(h:i+j≤1099511627776):IntKind.i64.wrap (Int.fdiv (gW.wrap ((i:Int)+j)) (2 ^ (min 1 gW.bits)))=((i+j)/2:Nat):=by
 have hw:gW.wrap ((i:Int)+j)=i+j:=by simp[rA,nv,rz];omega
 have H3:gW.bits=64:=rfl;rw[hw,H3,show(2:Int) ^ (min 1 64)=2 from by decide,Int.fdiv_eq_ediv_of_nonneg _ (by omega),oc]
 ·omega
 ·omega
end Go.Pv
namespace Go.Pv
open Go
inductive bP where
 |mk (kind n:Int) (name:List dA) (args:List bP)
def bP.kind:bP→Int| .mk k _ _ _=>k
def bP.num:bP→Int| .mk _ n _ _=>n
def bP.name:bP→List dA| .mk _ _ s _=>s
def bP.args:bP→List bP| .mk _ _ _ a=>a
mutual
def enc:bP→ah
 | .mk k n s a=>.agg [.int .i64 k,.int .i64 n,.str s,.slice 4 .no (oB a)]
def oB:List bP→List ah
 |[]=>[]
 |x::xs=>enc x::oB xs
end
theorem Dy:∀l,oB l=l.map enc
 |[]=>rfl
 |x::xs=>by simp[oB,Dy xs]
theorem uA(t:bP):enc t= .agg [.int .i64 t.kind,.int .i64 t.num,.str t.name,.slice 4 .no (t.args.map enc)]:=by cases t;simp[enc,Dy,bP.kind,bP.num,bP.name,bP.args]
mutual
theorem RX(S:aD→Prop):∀t:bP,aB S (enc t)
 | .mk k n s a=>by simp[enc,aB,aH,Jb S a]
theorem Jb(S:aD→Prop):∀l:List bP,aH S (oB l)
 |[]=>by simp[oB,aH]
 |x::xs=>by simp[oB,aH,RX S x,Jb S xs]
end
mutual
theorem UG:∀t:bP,dn (enc t)=enc t
 | .mk k n s a=>by simp[enc,dn,cU,K4 a]
theorem K4:∀l:List bP,cU (oB l)=oB l
 |[]=>by simp[oB,cU]
 |x::xs=>by simp[oB,cU,UG x,K4 xs]
end
@[simp] theorem anc(S:aD→Prop)(t:bP):aB S (enc t)=True:=eq_true (RX S t)
@[simp] theorem amX(S:aD→Prop)(l:List bP):aH S (l.map enc)=True:=by rw[←Dy];exact eq_true (Jb S l)
theorem ai1(l:List bP):cU (l.map enc)=l.map enc:=by rw[←Dy];exact K4 l
attribute [simp] UG ai1
@[simp] theorem aoN(t:bP):dS (enc t)=true:=by rw[uA];rfl
@[simp] theorem alj(t:bP):cells (enc t)=[.int .i64 t.kind,.int .i64 t.num,.str t.name,.slice 4 .no (t.args.map enc)]:=by rw[uA];rfl
@[simp] theorem akV(t:bP):ah.agg [.int .i64 t.kind,.int .i64 t.num,.str t.name,.slice 4 .no (t.args.map enc)]=enc t:=(uA t).symm
@[simp] theorem al0(off:Nat)(eW:Bool)(sz:Nat)(t:bP):qC off eW sz (enc t)=if eW then some (off+sz≤4,.agg (([.int .i64 t.kind,.int .i64 t.num,.str t.name,.slice 4 .no (t.args.map enc)].drop off).take sz))else(([.int .i64 t.kind,.int .i64 t.num,.str t.name,.slice 4 .no (t.args.map enc)]:List ah)[off]?).map fun p=>(True,p):=by rw[uA];rfl
@[simp] theorem alQ(off:Nat)(eW:Bool)(sz:Nat)(t:bP):o6 off eW sz (.eptr (enc t))=if eW then some (off+sz≤4,.eptr (.agg (([.int .i64 t.kind,.int .i64 t.num,.str t.name,.slice 4 .no (t.args.map enc)].drop off).take sz)))else(([.int .i64 t.kind,.int .i64 t.num,.str t.name,.slice 4 .no (t.args.map enc)]:List ah)[off]?).map fun p=>(dS p=true∧cells p=[p],.eptr p):=by rw[uA];rfl
@[simp] theorem amF(t:bP):Pv.isAgg 4 (enc t):=by rw[uA];exact⟨_,rfl,rfl⟩
inductive T where
 |nil
 |var (n:Int)
 |sym (s:List dA)
 |num (n:Int)
 |pair (a b:T)
 deriving DecidableEq,Inhabited
def T.tm:T→bP
 | .nil=>.mk 0 0 [] []
 | .var n=>.mk 1 n [] []
 | .sym s=>.mk 2 0 s []
 | .num n=>.mk 3 n [] []
 | .pair a b=>.mk 4 0 [] [a.tm,b.tm]
def T.e:T→ah
 | .nil=>.agg [.int .i64 0,.int .i64 0,.str [],.slice 4 .no []]
 | .var n=>.agg [.int .i64 1,.int .i64 n,.str [],.slice 4 .no []]
 | .sym s=>.agg [.int .i64 2,.int .i64 0,.str s,.slice 4 .no []]
 | .num n=>.agg [.int .i64 3,.int .i64 n,.str [],.slice 4 .no []]
 | .pair a b=>.agg [.int .i64 4,.int .i64 0,.str [],.slice 4 .no [a.e,b.e]]
theorem uB:∀t:T,enc t.tm=t.e
 | .nil| .var _| .sym _| .num _=>rfl
 | .pair a b=>by simp[T.tm,enc,oB,T.e,uB a,uB b]
def T.kind:T→Int
 | .nil=>0| .var _=>1| .sym _=>2| .num _=>3| .pair _ _=>4
def T.int:T→Int
 | .var n=>n| .num n=>n|_=>0
def T.name:T→List dA
 | .sym s=>s|_=>[]
def T.args:T→List T
 | .pair a b=>[a,b]|_=>[]
theorem T.e_eq(t:T):t.e= .agg [.int .i64 t.kind,.int .i64 t.int,.str t.name,.slice 4 .no (t.args.map T.e)]:=by cases t<;>rfl
@[simp] theorem akU(t:T):ah.agg [.int .i64 t.kind,.int .i64 t.int,.str t.name,.slice 4 .no (t.args.map T.e)]=t.e:=(T.e_eq t).symm
@[simp] theorem akW:ah.agg [.int .i64 0,.int .i64 0,.str [],.slice 4 .no []]=T.nil.e:=rfl
@[simp] theorem ak0(n:Int):ah.agg [.int .i64 1,.int .i64 n,.str [],.slice 4 .no []]=(T.var n).e:=rfl
@[simp] theorem akZ(s:List dA):ah.agg [.int .i64 2,.int .i64 0,.str s,.slice 4 .no []]=(T.sym s).e:=rfl
@[simp] theorem akX(n:Int):ah.agg [.int .i64 3,.int .i64 n,.str [],.slice 4 .no []]=(T.num n).e:=rfl
@[simp] theorem akY(a b:T):ah.agg [.int .i64 4,.int .i64 0,.str [],.slice 4 .no [a.e,b.e]]=(T.pair a b).e:=rfl
@[simp] theorem alZ(off:Nat)(eW:Bool)(sz:Nat)(t:T):qC off eW sz t.e=if eW then some (off+sz≤4,.agg (([.int .i64 t.kind,.int .i64 t.int,.str t.name,.slice 4 .no (t.args.map T.e)].drop off).take sz))else(([.int .i64 t.kind,.int .i64 t.int,.str t.name,.slice 4 .no (t.args.map T.e)]:List ah)[off]?).map fun p=>(True,p):=by rw[T.e_eq];rfl
@[simp] theorem alP(off:Nat)(eW:Bool)(sz:Nat)(t:T):o6 off eW sz (.eptr t.e)=if eW then some (off+sz≤4,.eptr (.agg (([.int .i64 t.kind,.int .i64 t.int,.str t.name,.slice 4 .no (t.args.map T.e)].drop off).take sz)))else(([.int .i64 t.kind,.int .i64 t.int,.str t.name,.slice 4 .no (t.args.map T.e)]:List ah)[off]?).map fun p=>(dS p=true∧cells p=[p],.eptr p):=by rw[T.e_eq];rfl
@[simp] theorem adZ:(T.nil).kind=0:=rfl
@[simp] theorem adt:(T.nil).int=0:=rfl
@[simp] theorem aeS:(T.nil).name=[]:=rfl
@[simp] theorem Wq:(T.nil).args=[]:=rfl
@[simp] theorem ad4(n:Int):(T.var n).kind=1:=rfl
@[simp] theorem adx(n:Int):(T.var n).int=n:=rfl
@[simp] theorem aeX(n:Int):(T.var n).name=[]:=rfl
@[simp] theorem Wu(n:Int):(T.var n).args=[]:=rfl
@[simp] theorem ad3(s:List dA):(T.sym s).kind=2:=rfl
@[simp] theorem adw(s:List dA):(T.sym s).int=0:=rfl
@[simp] theorem aeW(s:List dA):(T.sym s).name=s:=rfl
@[simp] theorem Wt(s:List dA):(T.sym s).args=[]:=rfl
@[simp] theorem ad0(n:Int):(T.num n).kind=3:=rfl
@[simp] theorem adu(n:Int):(T.num n).int=n:=rfl
@[simp] theorem aeT(n:Int):(T.num n).name=[]:=rfl
@[simp] theorem Wr(n:Int):(T.num n).args=[]:=rfl
@[simp] theorem ad1(a b:T):(T.pair a b).kind=4:=rfl
@[simp] theorem adv(a b:T):(T.pair a b).int=0:=rfl
@[simp] theorem aeU(a b:T):(T.pair a b).name=[]:=rfl
@[simp] theorem Ws(a b:T):(T.pair a b).args=[a,b]:=rfl
@[simp] theorem anb(S:aD→Prop)(t:T):aB S t.e=True:=by rw[←uB];simp
@[simp] theorem ape(t:T):dn t.e=t.e:=by rw[←uB];simp
theorem RQ(S:aD→Prop):∀l:List T,aH S (l.map T.e)
 |[]=>by simp[aH]
 |x::xs=>by simp[aH,RQ S xs]
@[simp] theorem RP(S:aD→Prop)(l:List T):aH S (l.map T.e)=True:=eq_true (RQ S l)
@[simp] theorem ai0:∀l:List T,cU (l.map T.e)=l.map T.e
 |[]=>rfl
 |x::xs=>by simp[cU,ai0 xs]
@[simp] theorem aoM(t:T):dS t.e=true:=by rw[T.e_eq];rfl
@[simp] theorem ali(t:T):cells t.e=[.int .i64 t.kind,.int .i64 t.int,.str t.name,.slice 4 .no (t.args.map T.e)]:=by rw[T.e_eq];rfl
@[simp] theorem amE(t:T):Pv.isAgg 4 t.e:=by rw[T.e_eq];exact⟨_,rfl,rfl⟩
def T.size:T→Nat
 | .pair a b=>1+a.size+b.size
 |_=>1
theorem T.size_pos(t:T):1≤t.size:=by cases t<;>simp[T.size]<;>omega
def low(b:dA):Bool:=decide (97≤b.toNat∧b.toNat≤122)
def lY(b:dA):Bool:=low b||decide (48≤b.toNat∧b.toNat≤57)||b.toNat==45
def jl(s:List dA):Bool:=decide (1≤s.length∧s.length≤12)&&low (s.getD 0 0)&&(s.drop 1).all lY
def T.ok:T→Bool
 | .nil=>true
 | .var n=>decide (0≤n∧n≤100000)
 | .sym s=>jl s
 | .num n=>decide (-1000000000≤n∧n≤1000000000)
 | .pair a b=>a.ok&&b.ok
def kK(k n:Int)(s:List dA):Bool:=if k=0 then n==0&&s==[]else if k=1 then decide (0≤n∧n≤100000)&&s==[]else if k=2 then n==0&&jl s else if k=3 then decide (-1000000000≤n∧n≤1000000000)&&s==[]else false
def fk:bP→Int→Int
 | .mk k n s [a,b],room=>if room<1∨k≠4∨n≠0∨s≠[]then-1 else if fk a (room-1)<0 then-1 else if fk b (room-1-fk a (room-1))<0 then-1 else 1+fk a (room-1)+fk b (room-1-fk a (room-1))
 | .mk k n s args,room=>if room<1∨k=4∨args≠[]∨kK k n s=false then-1 else 1
theorem JL(k n:Int)(s:List dA)(args:List bP)(room:Int):fk (.mk k n s args) room=if room<1 then-1 else if k≠4 then(if args≠[]then-1 else if kK k n s then 1 else-1)else if n≠0∨s≠[]then-1 else match args with
  |[a,b]=>if fk a (room-1)<0 then-1 else if fk b (room-1-fk a (room-1))<0 then-1 else 1+fk a (room-1)+fk b (room-1-fk a (room-1))
  |_=> -1:=by
 match args with
 |[]=>simp only[fk];by_cases J:room<1<;>by_cases U:k=4<;>by_cases al:kK k n s=true<;>simp[J,U,al]
 |[a]=>simp[fk]
 |[a,b]=>simp only[fk];by_cases J:room<1<;>by_cases U:k=4<;>simp[J,U]
 |a::b::c::r=>simp[fk]
theorem EZ:∀(t:T) (room:Int),fk t.tm room=if t.ok=true∧(t.size:Int)≤room then(t.size:Int)else-1
 | .nil,room=>by simp[T.tm,fk,T.ok,T.size,kK];split<;>rename_i h<;>simp_all<;>omega
 | .var n,room=>by simp[T.tm,fk,T.ok,T.size,kK];split<;>split<;>simp_all<;>omega
 | .sym s,room=>by simp[T.tm,fk,T.ok,T.size,kK];by_cases J:room<1<;>by_cases U:jl s=true<;>simp[J,U]<;>omega
 | .num n,room=>by simp[T.tm,fk,T.ok,T.size,kK];split<;>split<;>simp_all<;>omega
 | .pair a b,room=>by
  have bD:=a.size_pos;have ae:=b.size_pos;simp only[T.tm,fk,EZ a,EZ b,T.ok,T.size,cA];by_cases J:room<1
  ·simp[J];omega
  ·by_cases U:a.ok=true∧(a.size:Int)≤room-1
   ·rw[if_pos U];by_cases al:b.ok=true∧(b.size:Int)≤room-1-a.size
    ·rw[if_pos al];simp[J,U.1,al.1];split<;>omega
    ·rw[if_neg al];simp[J,U.1];intro kY;have:=al;simp[kY]at this;omega
   ·rw[if_neg U];simp[J];intro kE;have:=U;simp[kE]at this;omega
theorem BW:∀(t:bP) (room:Int),fk t room= -1∨1≤fk t room
 | .mk k n s [a,b],room=>by
  simp only[fk];split
  ·exact .inl rfl
  ·split
   ·exact .inl rfl
   ·split
    ·exact .inl rfl
    ·right;omega
 | .mk k n s [],room=>by simp only[fk];split<;>simp
 | .mk k n s [a],room=>by simp[fk]
 | .mk k n s (a::b::c::r),room=>by simp[fk]
theorem JN:∀(t:bP) (room:Int),0<fk t room→∃x:T,x.tm=t
 | .mk k n s [a,b],room,h=>by
  simp only[fk]at h;split at h
  ·omega
  ·rename_i J;simp only[not_or,Int.not_lt,ne_eq,apu]at J;obtain⟨J,rfl,rfl,rfl⟩:=J;split at h
   ·omega
   ·split at h
    ·omega
    ·obtain⟨x,rfl⟩:=JN a (room-1) (by rcases BW a (room-1)with h|h<;>omega);obtain⟨y,rfl⟩:=JN b (room-1-fk x.tm (room-1)) (by rcases BW b (room-1-fk x.tm (room-1))with h|h<;>omega);exact⟨.pair x y,rfl⟩
 | .mk k n s [],room,h=>by
  simp only[fk]at h;split at h
  ·omega
  ·rename_i J;simp only[not_or,ne_eq,not_true_eq_false,not_false_eq_true,true_and,Bool.not_eq_false]at J;obtain⟨_,_,J⟩:=J;unfold kK at J;split at J
   ·rename_i e;subst e;simp at J;obtain⟨rfl,rfl⟩:=J;exact⟨.nil,rfl⟩
   ·split at J
    ·rename_i e;subst e;simp at J;obtain⟨_,rfl⟩:=J;exact⟨.var n,rfl⟩
    ·split at J
     ·rename_i e;subst e;simp at J;obtain⟨rfl,_⟩:=J;exact⟨.sym s,rfl⟩
     ·split at J
      ·rename_i e;subst e;simp at J;obtain⟨_,rfl⟩:=J;exact⟨.num n,rfl⟩
      ·cases J
 | .mk k n s [a],room,h=>by simp[fk]at h
 | .mk k n s (a::b::c::r),room,h=>by simp[fk]at h
theorem JM:∀(t:bP) (room:Int),fk t room≤room∨fk t room= -1
 | .mk k n s [a,b],room=>by
  simp only[fk];split
  ·exact .inr rfl
  ·split
   ·exact .inr rfl
   ·split
    ·exact .inr rfl
    ·rcases JM b (room-1-fk a (room-1))with h|h<;>omega
 | .mk k n s [],room=>by simp only[fk];split<;>simp;rename_i h;omega
 | .mk k n s [a],room=>by simp[fk]
 | .mk k n s (a::b::c::r),room=>by simp[fk]
mutual
def bP.sz:bP→Nat
 | .mk _ _ _ a=>1+bP.szL a
def bP.szL:List bP→Nat
 |[]=>0
 |x::xs=>x.sz+bP.szL xs
end
theorem szL_mem:∀{l:List bP} {x:bP},x∈l→x.sz≤bP.szL l
 |y::l,x,h=>by
  rcases fU.1 h with rfl|h
  ·simp[bP.szL]
  ·have:=szL_mem h;simp[bP.szL];omega
theorem Ld{t x:bP}(h:x∈t.args):x.sz<t.sz:=by cases t;simp[bP.args]at h;have:=szL_mem h;simp[bP.sz];omega
def T.fit(t:T):Bool:=t.ok&&decide (t.size≤5000)
def bP.fits(t:bP):Bool:=decide (0<fk t 5000)
theorem bP.fits_T(t:T):t.tm.fits=t.fit:=by
 unfold bP.fits T.fit;rw[EZ];have:=t.size_pos;by_cases J:t.ok=true<;>by_cases U:t.size≤5000
 ·rw[if_pos ⟨J,by omega⟩];simp[J,U];omega
 ·rw[if_neg (by omega)];simp[U]
 ·rw[if_neg (by simp[J])];simp[J]
 ·rw[if_neg (by simp[J])];simp[J]
theorem bP.fits_ex{t:bP}(h:t.fits=true):∃x:T,x.tm=t∧x.fit=true:=by obtain⟨x,rfl⟩:=JN t 5000 (by simpa[bP.fits]using h);exact⟨x,rfl,by rw[←bP.fits_T];exact h⟩
structure aq where
 v:Int
 t:T
 deriving DecidableEq,Inhabited
def aq.e(b:aq):ah:= .agg [.int .i64 b.v,.int .i64 b.t.kind,.int .i64 b.t.int,.str b.t.name,.slice 4 .no (b.t.args.map T.e)]
@[simp] theorem aq.eta(b:aq):aq.mk b.v b.t=b:=rfl
@[simp] theorem L3(v:Int)(t:T):ah.agg [.int .i64 v,.int .i64 t.kind,.int .i64 t.int,.str t.name,.slice 4 .no (t.args.map T.e)]=(aq.mk v t).e:=rfl
@[simp] theorem akP(v:Int):ah.agg [.int .i64 v,.int .i64 0,.int .i64 0,.str [],.slice 4 .no []]=(aq.mk v .nil).e:=rfl
@[simp] theorem akT(v n:Int):ah.agg [.int .i64 v,.int .i64 1,.int .i64 n,.str [],.slice 4 .no []]=(aq.mk v (.var n)).e:=rfl
@[simp] theorem akS(v:Int)(s:List dA):ah.agg [.int .i64 v,.int .i64 2,.int .i64 0,.str s,.slice 4 .no []]=(aq.mk v (.sym s)).e:=rfl
@[simp] theorem akQ(v n:Int):ah.agg [.int .i64 v,.int .i64 3,.int .i64 n,.str [],.slice 4 .no []]=(aq.mk v (.num n)).e:=rfl
@[simp] theorem akR(v:Int)(a b:T):ah.agg [.int .i64 v,.int .i64 4,.int .i64 0,.str [],.slice 4 .no [a.e,b.e]]=(aq.mk v (.pair a b)).e:=rfl
@[simp] theorem am4(S:aD→Prop)(b:aq):aB S b.e=True:=by simp[aq.e,-L3]
@[simp] theorem ao7(b:aq):dn b.e=b.e:=by simp[aq.e,-L3]
theorem RM(S:aD→Prop):∀l:List aq,aH S (l.map aq.e)
 |[]=>by simp[aH]
 |x::xs=>by simp[aH,RM S xs]
@[simp] theorem amT(S:aD→Prop)(l:List aq):aH S (l.map aq.e)=True:=eq_true (RM S l)
@[simp] theorem UF:∀l:List aq,cU (l.map aq.e)=l.map aq.e
 |[]=>rfl
 |x::xs=>by simp[cU,UF xs]
@[simp] theorem aoC(b:aq):dS b.e=true:=rfl
@[simp] theorem ala(b:aq):cells b.e=[.int .i64 b.v,.int .i64 b.t.kind,.int .i64 b.t.int,.str b.t.name,.slice 4 .no (b.t.args.map T.e)]:=rfl
@[simp] theorem amB(b:aq):Pv.isAgg 5 b.e:=⟨_,rfl,rfl⟩
@[simp] theorem alX(off:Nat)(eW:Bool)(sz:Nat)(b:aq):qC off eW sz b.e=if eW then some (off+sz≤5,.agg (([.int .i64 b.v,.int .i64 b.t.kind,.int .i64 b.t.int,.str b.t.name,.slice 4 .no (b.t.args.map T.e)].drop off).take sz))else(([.int .i64 b.v,.int .i64 b.t.kind,.int .i64 b.t.int,.str b.t.name,.slice 4 .no (b.t.args.map T.e)]:List ah)[off]?).map fun p=>(True,p):=rfl
@[simp] theorem alN(off:Nat)(eW:Bool)(sz:Nat)(b:aq):o6 off eW sz (.eptr b.e)=if eW then some (off+sz≤5,.eptr (.agg (([.int .i64 b.v,.int .i64 b.t.kind,.int .i64 b.t.int,.str b.t.name,.slice 4 .no (b.t.args.map T.e)].drop off).take sz)))else(([.int .i64 b.v,.int .i64 b.t.kind,.int .i64 b.t.int,.str b.t.name,.slice 4 .no (b.t.args.map T.e)]:List ah)[off]?).map fun p=>(dS p=true∧cells p=[p],.eptr p):=rfl
def T.occ(v:Int):T→Bool
 | .var n=>n==v
 | .pair a b=>a.occ v||b.occ v
 |_=>false
def en(a b:Int):Int:=if a<b then-1 else if b<a then 1 else 0
def kd(a b:List dA):Int:=if a=b then 0 else if hf a b then-1 else 1
def eg:T→T→Int
 | .pair a b,.pair c d=>if eg a c=0 then eg b d else eg a c
 |x,y=>if x.kind≠y.kind then en x.kind y.kind else if x.int≠y.int then en x.int y.int else kd x.name y.name
structure cQ where
 v:Int
 t:bP
def cQ.e(b:cQ):ah:= .agg [.int .i64 b.v,.int .i64 b.t.kind,.int .i64 b.t.num,.str b.t.name,.slice 4 .no (b.t.args.map enc)]
def aq.b(b:aq):cQ:=⟨b.v,b.t.tm⟩
theorem aq.b_e(b:aq):b.b.e=b.e:=by obtain⟨v,t⟩:=b;cases t<;>simp only[aq.b,cQ.e,aq.e,T.tm,bP.kind,bP.num,bP.name,bP.args,uB,adZ,ad4,ad3,ad0,ad1,adt,adx,adw,adu,adv,aeS,aeX,aeW,aeT,aeU,Wq,Wu,Wt,Wr,Ws,gX,List.map_nil]
@[simp] theorem cQ.eta(b:cQ):cQ.mk b.v b.t=b:=rfl
@[simp] theorem L4(v:Int)(t:bP):ah.agg [.int .i64 v,.int .i64 t.kind,.int .i64 t.num,.str t.name,.slice 4 .no (t.args.map enc)]=(cQ.mk v t).e:=rfl
@[simp] theorem am6(S:aD→Prop)(b:cQ):aB S b.e=True:=by simp[cQ.e,-L4]
@[simp] theorem ao9(b:cQ):dn b.e=b.e:=by simp[cQ.e,-L4]
theorem RO(S:aD→Prop):∀l:List cQ,aH S (l.map cQ.e)
 |[]=>by simp[aH]
 |x::xs=>by simp[aH,RO S xs]
@[simp] theorem amV(S:aD→Prop)(l:List cQ):aH S (l.map cQ.e)=True:=eq_true (RO S l)
@[simp] theorem aiZ:∀l:List cQ,cU (l.map cQ.e)=l.map cQ.e
 |[]=>rfl
 |x::xs=>by simp[cU,aiZ xs]
@[simp] theorem aoF(b:cQ):dS b.e=true:=rfl
@[simp] theorem ald(b:cQ):cells b.e=[.int .i64 b.v,.int .i64 b.t.kind,.int .i64 b.t.num,.str b.t.name,.slice 4 .no (b.t.args.map enc)]:=rfl
@[simp] theorem amD(b:cQ):Pv.isAgg 5 b.e:=⟨_,rfl,rfl⟩
@[simp] theorem alY(off:Nat)(eW:Bool)(sz:Nat)(b:cQ):qC off eW sz b.e=if eW then some (off+sz≤5,.agg (([.int .i64 b.v,.int .i64 b.t.kind,.int .i64 b.t.num,.str b.t.name,.slice 4 .no (b.t.args.map enc)].drop off).take sz))else(([.int .i64 b.v,.int .i64 b.t.kind,.int .i64 b.t.num,.str b.t.name,.slice 4 .no (b.t.args.map enc)]:List ah)[off]?).map fun p=>(True,p):=rfl
@[simp] theorem alO(off:Nat)(eW:Bool)(sz:Nat)(b:cQ):o6 off eW sz (.eptr b.e)=if eW then some (off+sz≤5,.eptr (.agg (([.int .i64 b.v,.int .i64 b.t.kind,.int .i64 b.t.num,.str b.t.name,.slice 4 .no (b.t.args.map enc)].drop off).take sz)))else(([.int .i64 b.v,.int .i64 b.t.kind,.int .i64 b.t.num,.str b.t.name,.slice 4 .no (b.t.args.map enc)]:List ah)[off]?).map fun p=>(dS p=true∧cells p=[p],.eptr p):=rfl
def zl(l:List cQ)(i:Nat):Prop:= ∀b,l[i]? =some b→(0≤b.v∧b.v≤100000)∧(∀c,0<i→l[i-1]? =some c→c.v<b.v)∧b.t.fits=true
def x0(l:List cQ):Prop:=l.length≤400∧∀i,i<l.length→zl l i
theorem qe:∀a b:T,eg a b=0↔a=b
 | .pair a b,.pair c d=>by
  simp only[eg,T.pair.injEq];split
  ·rename_i h;rw[qe b d,←qe a c];simp[h]
  ·rename_i h;simp[h,←qe a c]
 | .nil,y=>by cases y<;>simp[eg,en,kd]
 | .var n,y=>by cases y<;>simp[eg,en,kd]<;>omega
 | .sym s,y=>by cases y<;>simp[eg,en,kd];rename_i ai;by_cases h:s=ai<;>simp[h];by_cases U:hf s ai=true<;>simp[U]
 | .num n,y=>by cases y<;>simp[eg,en,kd]<;>omega
 | .pair a b,.nil| .pair a b,.var _| .pair a b,.sym _| .pair a b,.num _=>by simp[eg,en]
def T.sub(f:Int→aW T):T→T
 | .var n=>match f n with|some x=>x|none=>.var n
 | .pair a b=>.pair (a.sub f) (b.sub f)
 |t=>t
def kL(f:Int→Int):T→Int
 | .var n=>if 5001<f n then 5001 else f n
 | .pair a b=>if 5000<kL f a then kL f a else if 5001<1+kL f a+kL f b then 5001 else 1+kL f a+kL f b
 |_=>1
theorem FO(f:Int→Int)(aI:∀v,-1≤f v):∀t,-1≤kL f t∧kL f t≤5001
 | .var n=>by have:=aI n;simp only[kL];split<;>omega
 | .pair a b=>by have:=FO f aI a;have:=FO f aI b;simp only[kL];split<;>(try split)<;>omega
 | .nil| .sym _| .num _=>by simp[kL]
def dd(l:List aq)(v:Int):aW T:=(l.find? fun b=>b.v==v).map (·.t)
end Go.Pv
namespace Go.Pv
open Go
structure jc {α:Type} (c:α→α→Int):Prop where
 neg:∀a b,c b a= -c a b
 tr:∀a b d,c a b≤0→c b d≤0→c a d≤0
 zero:∀a b,c a b=0↔a=b
section
variable {α:Type} {c:α→α→Int}
def hv(c:α→α→Int)(a b:α):Bool:=decide (c a b<0)
theorem jc.ltOk(h:jc c):pN (hv c):=by
 refine⟨fun x y hC=>?_,fun x y z J U=>?_⟩
 ·simp only[hv,fx,hx]at hC⊢;rw[h.neg x y];omega
 ·simp only[hv,hx]at J U⊢;have aj:=h.neg x y;have aC:=h.neg y z;have bg:=h.neg x z;have:=h.tr x y z (by omega) (by omega);omega
theorem jc.refl(h:jc c)(a:α):c a a=0:=(h.zero a a).2 rfl
theorem jc.ltr(h:jc c){a b d:α}(J:c a b<0)(U:c b d≤0):c a d<0:=by
 have al:=h.tr a b d (by omega) U;rcases(by omega:c a d<0∨c a d=0)with a6|a6
 ·exact a6
 ·obtain rfl:=(h.zero a d).1 a6;have:=h.neg a b;omega
def n3(c:α→α→Int)(l:List α):List α:=l.mergeSort fun x y=>decide (c x y≤0)
theorem xH(c:α→α→Int)(l:List α):(n3 c l).Perm l:=List.mergeSort_perm l _
theorem K2(h:jc c)(l:List α):(n3 c l).Pairwise fun x y=>c x y≤0:=by have:=List.pairwise_mergeSort (le:=fun x y=>decide (c x y≤0)) (fun a b d J U=>by simp at J U⊢;exact h.tr a b d J U) (fun a b=>by simp;have:=h.neg a b;omega) l;exact this.imp (by simp)
theorem UB(h:jc c){l aX:List α}(bF:aX.Perm l)(ag:aX.Pairwise fun x y=>hv c y x=false):aX=n3 c l:=by refine LN (le:=fun x y=>c x y≤0) (fun x y _ _ J U=>(h.zero x y).1 (by have:=h.neg x y;omega)) (ag.imp fun{x y} hC=>?_) (K2 h l) (bF.trans (xH c l).symm);simp only[hv,hx]at hC;have:=h.neg x y;omega
def cD[DecidableEq α](p:aW α):List α→List α
 |[]=>[]
 |x::r=>if p=some x then cD (some x) r else x::cD (some x) r
def asc[DecidableEq α](c:α→α→Int)(l:List α):List α:=cD none (n3 c l)
def hy(c:α→α→Int)(l:List α):Prop:=l.Pairwise fun x y=>c x y<0
variable [DecidableEq α]
theorem Hd:∀(l:List α) (p:aW α) (x:α),x∈cD p l→x∈l
 |[],_,_,h=>by simp[cD]at h
 |y::r,p,x,h=>by
  simp only[cD]at h;split at h
  ·exact oW _ (Hd r _ x h)
  ·rcases fU.1 h with rfl|h
   ·simp
   ·exact oW _ (Hd r _ x h)
theorem Jy:∀(l:List α) (p:aW α) (x:α),x∈l→x∈cD p l∨p=some x
 |y::r,p,x,h=>by
  simp only[cD];rcases fU.1 h with rfl|h
  ·split
   ·rename_i U;exact .inr U
   ·simp
  ·split
   ·rename_i U;rcases Jy r (some y) x h with al|al
    ·exact .inl al
    ·cases al;exact .inr U
   ·rcases Jy r (some y) x h with al|al
    ·exact .inl (oW _ al)
    ·cases al;simp
theorem OQ(aw:jc c):∀(l:List α) (p:aW α),l.Pairwise (fun x y=>c x y≤0)→(∀y,p=some y→∀x∈l,c y x≤0)→hy c (cD p l)∧∀y,p=some y→∀x∈cD p l,c y x<0
 |[],p,_,_=>⟨apB,fun y _ x ad=>by simp[cD]at ad⟩
 |z::r,p,h,bF=>by
  obtain⟨J,U⟩:=mg.1 h;have bM:=OQ aw r (some z) U (fun y aL x ad=>by cases aL;exact J x ad);simp only[cD];split
  ·rename_i al;subst al;exact bM
  ·rename_i al;refine⟨mg.2 ⟨fun x ad=>bM.2 z rfl x ad,bM.1⟩,fun y aL x ad=>?_⟩;subst aL;have qY:c y z<0:=by
    have a6:=bF y rfl z (by simp);rcases(by omega:c y z<0∨c y z=0)with bW|bW
    ·exact bW
    ·exact absurd (e1 some ((aw.zero y z).1 bW)) al
   rcases fU.1 ad with rfl|ad
   ·exact qY
   ·exact aw.ltr qY (by have:=bM.2 z rfl x ad;omega)
theorem GC(aw:jc c)(l:List α):hy c (asc c l):=(OQ aw _ none (K2 aw l) (fun y h=>by cases h)).1
theorem Sq(l:List α)(x:α):x∈asc c l↔x∈l:=by
 constructor
 ·intro h;exact(xH c l).mem_iff.1 (Hd _ _ _ h)
 ·intro h;rcases Jy (n3 c l) none x ((xH c l).mem_iff.2 h)with h|h
  ·exact h
  ·cases h
omit [DecidableEq α]in
theorem hy.ext(aw:jc c){l aX:List α}(h:hy c l)(cp:hy c aX)(hm:∀x,x∈l↔x∈aX):l=aX:=by
 have aP:∀{l:List α},hy c l→l.Nodup:=fun{l} h=>h.imp fun{a b} h e=>by subst e;have:=aw.refl a;omega
 refine LN (le:=fun x y=>c x y≤0) (fun x y _ _ J U=>(aw.zero x y).1 (by have:=aw.neg x y;omega)) (h.imp fun h=>by omega) (cp.imp fun h=>by omega) ?_;exact(List.perm_ext_iff_of_nodup (aP h) (aP cp)).2 hm
omit [DecidableEq α]in
theorem hy.nodup(aw:jc c){l:List α}(h:hy c l):l.Nodup:=h.imp fun{a b} h e=>by subst e;have:=aw.refl a;omega
end
theorem GI:∀a b:List dA,hf a b=true→hf b a=false
 |_,[],h=>by simp[hf]at h
 |[],_::_,_=>by simp[hf]
 |x::a,y::b,h=>by
  simp only[hf,mf,fx,cA,dG]at h;simp only[hf,Bool.or_eq_false_iff,hx,Bool.and_eq_false_iff];rcases h with h|⟨rfl,h⟩
  ·refine⟨fun U=>?_,.inl ?_⟩
   ·rw[UInt8.lt_iff_toNat_lt]at h U;omega
   ·simp;intro e;subst e;rw[UInt8.lt_iff_toNat_lt]at h;omega
  ·exact⟨fun U=>by rw[UInt8.lt_iff_toNat_lt]at U;omega,.inr (GI a b h)⟩
theorem Ml:∀a b:List dA,a≠b→hf a b=false→hf b a=true
 |[],[],h,_=>absurd rfl h
 |x::a,[],_,_=>by simp[hf]
 |[],_::_,_,h=>by simp[hf]at h
 |x::a,y::b,cC,h=>by
  simp only[hf,Bool.or_eq_false_iff,hx,Bool.and_eq_false_iff]at h;simp only[hf,mf,fx,cA,dG];by_cases e:x=y
  ·subst e;right;refine⟨rfl,Ml a b (fun e=>cC (by rw[e])) ?_⟩;rcases h.2 with U|U
   ·simp at U
   ·exact U
  ·left;have J:=h.1;rw[UInt8.lt_iff_toNat_lt]at J⊢;have:x.toNat≠y.toNat:=fun h=>e (UInt8.toNat_inj.1 h);omega
theorem Mk:∀a b d:List dA,hf a b=true→hf b d=true→hf a d=true
 |_,[],_,h,_=>by simp[hf]at h
 |_,_::_,[],_,h=>by simp[hf]at h
 |[],_::_,_::_,_,_=>by simp[hf]
 |x::a,y::b,z::d,J,U=>by
  simp only[hf,mf,fx,cA,dG,UInt8.lt_iff_toNat_lt]at J U⊢;rcases J with J|⟨rfl,J⟩<;>rcases U with U|⟨rfl,U⟩
  ·left;omega
  ·left;exact J
  ·left;exact U
  ·exact .inr ⟨rfl,Mk a b d J U⟩
theorem jQ:jc en:=by
 refine⟨fun a b=>?_,fun a b d=>?_,fun a b=>?_⟩
 ·simp only[en];repeat' split
  all_goals omega
 ·simp only[en];repeat' split
  all_goals omega
 ·simp only[en];repeat' split
  all_goals omega
theorem B6:jc kd:=by
 have aA:∀a b,kd b a= -kd a b:=fun a b=>by
  simp only[kd];by_cases e:a=b
  ·subst e;simp
  ·rw[if_neg e,if_neg (ky e)];cases h:hf a b with
   |true=>simp[GI a b h]
   |false=>simp[Ml a b e h]
 refine⟨aA,fun a b d J U=>?_,fun a b=>?_⟩
 ·simp only[kd]at J U⊢;by_cases aj:a=b
  ·subst aj;exact U
  ·by_cases aC:b=d
   ·subst aC;exact J
   ·rw[if_neg aj]at J;rw[if_neg aC]at U;have g1:hf a b=true:=by cases h:hf a b<;>simp[h]at J⊢
    have g2:hf b d=true:=by cases h:hf b d<;>simp[h]at U⊢
    rw[Mk a b d g1 g2];split<;>simp
 ·simp only[kd];by_cases e:a=b
  ·simp[e]
  ·rw[if_neg e];simp[e];split<;>omega
theorem rb{a b:T}(h:a.kind≠b.kind):eg a b=en a.kind b.kind:=by cases a<;>cases b<;>simp at h<;>simp[eg]
theorem E6:∀a b:T,eg b a= -eg a b
 | .pair a b,.pair c d=>by
  simp only[eg];have J:=E6 a c;have U:=E6 b d;by_cases e:eg a c=0
  ·rw[if_pos e,if_pos (by omega),U]
  ·rw[if_neg e,if_neg (by omega),J]
 | .nil,y=>by
  by_cases ab:T.nil.kind=y.kind
  ·cases y<;>simp at ab;simp[eg,kd]
  ·rw[rb ab,rb (ky ab),jQ.neg]
 | .var n,y=>by
  by_cases ab:(T.var n).kind=y.kind
  ·cases y<;>simp at ab;rename_i m;by_cases e:n=m
   ·subst e;simp[eg,kd]
   ·simp[eg,e,ky e,jQ.neg n m]
  ·rw[rb ab,rb (ky ab),jQ.neg]
 | .sym s,y=>by
  by_cases ab:(T.sym s).kind=y.kind
  ·cases y<;>simp at ab;rename_i m;simp[eg,B6.neg s m]
  ·rw[rb ab,rb (ky ab),jQ.neg]
 | .num n,y=>by
  by_cases ab:(T.num n).kind=y.kind
  ·cases y<;>simp at ab;rename_i m;by_cases e:n=m
   ·subst e;simp[eg,kd]
   ·simp[eg,e,ky e,jQ.neg n m]
  ·rw[rb ab,rb (ky ab),jQ.neg]
 | .pair a b,.nil| .pair a b,.var _| .pair a b,.sym _| .pair a b,.num _=>by simp[eg,en]
theorem E5{a b:T}(h:eg a b≤0):a.kind≤b.kind:=by
 by_cases ab:a.kind=b.kind
 ·omega
 ·rw[rb ab]at h;simp only[en]at h;repeat' split at h
  all_goals omega
theorem Ta(n m:Int):eg (.var n) (.var m)=en n m:=by
 simp only[eg,T.kind,T.int,T.name,kd];by_cases e:n=m
 ·subst e;simp[en]
 ·simp[e]
theorem S9(n m:Int):eg (.num n) (.num m)=en n m:=by
 simp only[eg,T.kind,T.int,T.name,kd];by_cases e:n=m
 ·subst e;simp[en]
 ·simp[e]
theorem agW(n m:List dA):eg (.sym n) (.sym m)=kd n m:=by simp[eg]
theorem E7(a b d:T)(bD:a.kind≠4)(J:eg a b≤0)(U:eg b d≤0):eg a d≤0:=by
 have a8:=E5 J;have bU:=E5 U;by_cases ab:a.kind=d.kind
 ·cases a<;>cases d<;>simp at ab bD;all_goals(cases b<;>simp at a8 bU)
  ·simp[eg,kd]
  ·rw[Ta]at J U⊢;exact jQ.tr _ _ _ J U
  ·rw[agW]at J U⊢;exact B6.tr _ _ _ J U
  ·rw[S9]at J U⊢;exact jQ.tr _ _ _ J U
 ·rw[rb ab];simp only[en];repeat' split
  all_goals omega
theorem agX:∀a b d:T,eg a b≤0→eg b d≤0→eg a d≤0:=by
 intro a;induction a with
 |pair bz a2 El Em=>
  intro b d J U;have a8:=E5 J;have bU:=E5 U;cases b<;>simp at a8;all_goals(cases d<;>simp at bU)
  rename_i b9 bZ d1 d2;simp only[eg]at J U⊢;by_cases aj:eg bz b9=0
  ·obtain rfl:=(qe bz b9).1 aj;rw[if_pos aj]at J;by_cases aC:eg bz d1=0
   ·rw[if_pos aC]at U⊢;exact Em bZ d2 J U
   ·rw[if_neg aC]at U⊢;exact U
  ·rw[if_neg aj]at J;by_cases aC:eg b9 d1=0
   ·obtain rfl:=(qe b9 d1).1 aC;rw[if_neg aj];exact J
   ·rw[if_neg aC]at U;have al:=El b9 d1 J U;by_cases bg:eg bz d1=0
    ·obtain rfl:=(qe bz d1).1 bg;have:=E6 bz b9;omega
    ·rw[if_neg bg];exact al
 |nil=>exact fun b d=>E7 _ b d (by simp)
 |var n=>exact fun b d=>E7 _ b d (by simp)
 |sym n=>exact fun b d=>E7 _ b d (by simp)
 |num n=>exact fun b d=>E7 _ b d (by simp)
theorem J4:jc eg:=⟨E6,agX,qe⟩
end Go.Pv
namespace Go.Pv
open Go
section
variable {α:Type} {c:α→α→Int}
def jy(c:α→α→Int):List α→List α→Int
 |[],[]=>0
 |[],_::_=> -1
 |_::_,[]=>1
 |x::xs,y::ys=>if c x y=0 then jy c xs ys else c x y
theorem R9(h:jc c):∀a b:List α,jy c b a= -jy c a b
 |[],[]=>rfl
 |[],_::_=>rfl
 |_::_,[]=>rfl
 |x::xs,y::ys=>by
  simp only[jy];have J:=h.neg x y;by_cases e:c x y=0
  ·rw[if_pos e,if_pos (by omega),R9 h xs ys]
  ·rw[if_neg e,if_neg (by omega),J]
theorem Sb(h:jc c):∀a b:List α,jy c a b=0↔a=b
 |[],[]=>by simp[jy]
 |[],_::_=>by simp[jy]
 |_::_,[]=>by simp[jy]
 |x::xs,y::ys=>by
  simp only[jy,pI];by_cases e:c x y=0
  ·rw[if_pos e,Sb h xs ys];simp[(h.zero x y).1 e]
  ·rw[if_neg e];exact⟨fun cp=>absurd cp e,fun cp=>absurd ((h.zero x y).2 cp.1) e⟩
theorem Sa(h:jc c):∀a b d:List α,jy c a b≤0→jy c b d≤0→jy c a d≤0
 |[],_,[],_,_=>by simp[jy]
 |[],_,_::_,_,_=>by simp[jy]
 |_::_,[],_,J,_=>by simp[jy]at J
 |_::_,_::_,[],_,U=>by simp[jy]at U
 |x::xs,y::ys,z::cX,J,U=>by
  simp only[jy]at J U⊢;by_cases aj:c x y=0
  ·have:=(h.zero x y).1 aj;subst this;rw[if_pos aj]at J;by_cases aC:c x z=0
   ·rw[if_pos aC]at U⊢;exact Sa h xs ys cX J U
   ·rw[if_neg aC]at U⊢;exact U
  ·rw[if_neg aj]at J;have bu:c x y<0:=by omega
   by_cases aC:c y z=0
   ·have:=(h.zero y z).1 aC;subst this;rw[if_neg aj];omega
   ·rw[if_neg aC]at U;have:=h.ltr bu U;rw[if_neg (by omega)];omega
theorem aed(h:jc c):jc (jy c):=⟨R9 h,Sa h,Sb h⟩
end
def xp(x y:aq):Int:=if en x.v y.v=0 then eg x.t y.t else en x.v y.v
theorem agU:jc xp:=by
 refine⟨fun x y=>?_,fun x y z J U=>?_,fun x y=>?_⟩
 ·unfold xp;have:=jQ.neg x.v y.v;have:=J4.neg x.t y.t;by_cases e:en x.v y.v=0
  ·rw[if_pos e,if_pos (by omega)];omega
  ·rw[if_neg e,if_neg (by omega)];omega
 ·unfold xp at J U⊢;by_cases aj:en x.v y.v=0
  ·rw[if_pos aj]at J;rw[(jQ.zero _ _).1 aj];by_cases aC:en y.v z.v=0
   ·rw[if_pos aC]at U⊢;exact J4.tr _ _ _ J U
   ·rw[if_neg aC]at U⊢;exact U
  ·rw[if_neg aj]at J;have bu:en x.v y.v<0:=by omega
   by_cases aC:en y.v z.v=0
   ·rw[←(jQ.zero _ _).1 aC,if_neg aj];exact J
   ·rw[if_neg aC]at U;have:=jQ.ltr bu U;rw[if_neg (by omega)];omega
 ·unfold xp;by_cases e:en x.v y.v=0
  ·rw[if_pos e,J4.zero];have:=(jQ.zero _ _).1 e;cases x;cases y;simp_all
  ·rw[if_neg e];exact⟨fun h=>absurd h e,fun h=>by rw[h]at e;exact absurd (jQ.refl _) e⟩
def ek:List aq→List aq→Int:=jy xp
theorem la:jc ek:=aed agU
end Go.Pv
namespace Go.Pv
open Go
def T.ap(aN:Int→T):T→T
 | .var n=>aN n
 | .pair a b=>.pair (a.ap aN) (b.ap aN)
 |t=>t
theorem Ak(f g:Int→T)(t:T):(t.ap f).ap g=t.ap fun v=>(f v).ap g:=by
 induction t with
 |pair a b dO dP=>simp[T.ap,dO,dP]
 |_=>simp[T.ap]
theorem sS{f g:Int→T}{t:T}(h:∀v,t.occ v=true→f v=g v):t.ap f=t.ap g:=by
 induction t with
 |var n=>exact h n (by simp[T.occ])
 |pair a b dO dP=>simp only[T.ap];rw[dO fun v aK=>h v (by simp[T.occ,aK]),dP fun v aK=>h v (by simp[T.occ,aK])]
 |_=>rfl
theorem Wo(t:T):t.ap .var=t:=by induction t<;>simp_all[T.ap]
theorem L9{f:Int→T}{t:T}(h:∀v,t.occ v=true→f v= .var v):t.ap f=t:=(sS h).trans (Wo t)
theorem UI(f:Int→aW T)(t:T):t.sub f=t.ap fun v=>(f v).getD (.var v):=by
 induction t with
 |var n=>simp only[T.sub,T.ap];cases f n<;>rfl
 |pair a b dO dP=>simp[T.sub,T.ap,dO,dP]
 |_=>rfl
theorem Wn(aN:Int→T)(t:T):t.size≤(t.ap aN).size:=by
 induction t with
 |var n=>exact T.size_pos _
 |pair a b dO dP=>simp only[T.ap,T.size];omega
 |_=>exact eQ _
theorem zk(aN:Int→T){v:Int}{t:T}(h:t.occ v=true):(aN v).size≤(t.ap aN).size∧(t.kind≠1→(aN v).size<(t.ap aN).size):=by
 induction t with
 |var n=>simp[T.occ]at h;subst h;simp[T.ap,T.kind]
 |pair a b dO dP=>
  simp only[T.occ,mf]at h;simp only[T.ap,T.size];rcases h with h|h
  ·have:=(dO h).1;exact⟨by omega,fun _=>by omega⟩
  ·have:=(dP h).1;exact⟨by omega,fun _=>by omega⟩
 |_=>simp[T.occ]at h
theorem BZ{aN:Int→T}{v:Int}{t:T}:(t.ap aN).occ v=true↔∃w,t.occ w=true∧(aN w).occ v=true:=by
 induction t with
 |var n=>simp[T.ap,T.occ]
 |pair a b dO dP=>
  simp only[T.ap,T.occ,mf,dO,dP];constructor
  ·rintro(⟨w,J,U⟩|⟨w,J,U⟩)
   ·exact⟨w,.inl J,U⟩
   ·exact⟨w,.inr J,U⟩
  ·rintro⟨w,J|J,U⟩
   ·exact .inl ⟨w,J,U⟩
   ·exact .inr ⟨w,J,U⟩
 |_=>simp[T.ap,T.occ]
def cx(s:List aq)(v:Int):T:=(dd s v).getD (.var v)
abbrev h9(s:List aq):Prop:=s.Pairwise fun x y=>x.v<y.v
def gC(s:List aq)(aN:Int→T):Prop:= ∀b∈s,aN b.v=b.t.ap aN
structure fu (s:List aq):Prop where
 asc:h9 s
 free:∀b∈s,∀w,b.t.occ w=true→dd s w=none
 ori:∀b∈s,∀w,b.t= .var w→w<b.v
theorem sU(b:aq)(s:List aq)(v:Int):dd (b::s) v=if b.v=v then some b.t else dd s v:=by
 unfold dd;by_cases h:b.v=v
 ·simp[h]
 ·have:(b.v==v)=false:=by simp[h]
  simp[this,h,List.find?_cons]
theorem jH{v:Int}{t:T}:∀{s:List aq},dd s v=some t→(⟨v,t⟩:aq)∈s
 |[],h=>by simp[dd]at h
 |b::s,h=>by
  rw[sU]at h;split at h
  ·rename_i e;cases h;subst e;simp
  ·exact oW _ (jH h)
theorem uq{v:Int}:∀{s:List aq},dd s v=none↔∀b∈s,b.v≠v
 |[]=>by simp[dd]
 |b::s=>by
  rw[sU];by_cases h:b.v=v
  ·simp[h]
  ·simp[h,uq (s:=s)]
theorem uo{b:aq}:∀{s:List aq},h9 s→b∈s→dd s b.v=some b.t
 |[],_,h=>by simp at h
 |c::s,bD,h=>by
  rw[sU];have mw:=mg.1 bD;rcases fU.1 h with rfl|h
  ·simp
  ·have:=mw.1 b h;rw[if_neg (by omega)];exact uo mw.2 h
theorem Mb:∀{s ai:List aq},h9 s→h9 ai→(∀v,dd s v=dd ai v)→s=ai
 |[],[],_,_,_=>rfl
 |[],c::ai,_,_,h=>by have:=h c.v;rw[sU]at this;simp[dd]at this
 |c::s,[],_,_,h=>by have:=h c.v;rw[sU]at this;simp[dd]at this
 |b::s,c::ai,bD,ae,h=>by
  have fL:=mg.1 ae;have mw:=mg.1 bD;have J:(⟨b.v,b.t⟩:aq)∈c::ai:=jH (by rw[←h b.v,sU];simp);have U:(⟨c.v,c.t⟩:aq)∈b::s:=jH (by rw[h c.v,sU];simp);have P9:b=c:=by
   rcases fU.1 J with e|e
   ·exact e
   ·rcases fU.1 U with aC|aC
    ·exact aC.symm
    ·have aZ:=fL.1 _ e;have bB:=mw.1 _ aC;simp only at aZ bB;omega
  subst P9;rw[Mb mw.2 fL.2 fun v=>?_];have:=h v;rw[sU,sU]at this;by_cases e:b.v=v
  ·have kv:dd s v=none:=uq.2 fun x ad=>by have:=mw.1 x ad;omega
   have z2:dd ai v=none:=uq.2 fun x ad=>by have:=fL.1 x ad;omega
   rw[kv,z2]
  ·simpa[e]using this
theorem aiO{s:List aq}(bD:h9 s){aN:Int→T}:gC s aN↔∀v,aN v=(cx s v).ap aN:=by
 constructor
 ·intro h v;unfold cx;cases e:dd s v with
  |none=>rfl
  |some t=>exact h _ (jH e)
 ·intro h b ae;have:=h b.v;rw[cx,uo bD ae]at this;exact this
theorem K0{s:List aq}{aN:Int→T}(h:gC s aN)(t:T):t.ap aN=(t.ap (cx s)).ap aN:=by
 rw[Ak];refine sS fun v _=>?_;unfold cx;cases e:dd s v with
 |none=>rfl
 |some t=>exact h _ (jH e)
theorem aiv{s:List aq}(ag:fu s){t:T}(h:∀w,t.occ w=true→dd s w=none):t.ap (cx s)=t:=L9 fun v aK=>by simp[cx,h v aK]
theorem xG{s:List aq}(ag:fu s):gC s (cx s):=fun b ae=>by rw[aiv ag (ag.free b ae),cx,uo ag.asc ae];rfl
theorem JH{s ai:List aq}(ag:fu s)(fX:fu ai)(h:∀aN,gC ai aN→gC s aN){v:Int}(aK:dd ai v=none):dd s v=none:=by
 cases e:dd s v with
 |none=>rfl
 |some t=>
  have J:=h _ (xG fX) _ (jH e);simp only[cx,aK,mU]at J;cases t with
  |var w=>
   have U:w<v:=ag.ori _ (jH e) w rfl;simp only[T.ap,cx]at J;cases bg:dd ai w with
   |none=>rw[bg]at J;simp at J;omega
   |some u=>rw[bg]at J;simp only[kR]at J;subst J;have:=fX.ori _ (jH bg) v rfl;simp only at this;omega
  |_=>simp[T.ap]at J
theorem aeR{s ai:List aq}(fX:fu ai)(h:∀aN,gC ai aN→gC s aN){v:Int}:(cx s v).size≤(cx ai v).size:=by
 have J:=h _ (xG fX);unfold cx;cases e:dd s v with
 |none=>exact T.size_pos _
 |some t=>have:=J _ (jH e);show t.size≤(cx ai v).size;simp only at this;rw[this];exact Wn _ _
theorem aiR{s ai:List aq}(ag:fu s)(fX:fu ai)(h:∀aN,gC s aN↔gC ai aN):s=ai:=by
 refine Mb ag.asc fX.asc fun v=>?_;have d1:∀w,dd s w=none↔dd ai w=none:=fun w=>⟨JH fX ag (fun aN=>(h aN).1),JH ag fX fun aN=>(h aN).2⟩;cases e:dd s v with
 |none=>exact((d1 v).1 e).symm
 |some t=>
  cases fB:dd ai v with
  |none=>rw[(d1 v).2 fB]at e;cases e
  |some dD=>have J:=(h _).2 (xG fX) _ (jH e);simp only[cx,fB,kR]at J;rw[J];exact e1 some (L9 fun w hw=>by have:=(d1 w).1 (ag.free _ (jH e) w hw);simp[cx,this]).symm
def hg(s:List aq):Prop:=s.length≤400∧∀b∈s,b.t.size≤5000
theorem Wx{s:List aq}(h:h9 s):(s.map (·.v)).Nodup:=by rw[List.nodup_iff_pairwise_ne,List.pairwise_map];exact h.imp fun h=>by omega
theorem Pp{s ai:List aq}(ag:fu s)(fX:fu ai)(h:∀aN,gC ai aN→gC s aN)(aI:hg ai):hg s:=by
 have aP:∀x∈s.map (·.v),x∈ai.map (·.v):=by
  intro x ad;obtain⟨b,ae,rfl⟩:=iC.1 ad;cases e:dd ai b.v with
  |none=>have:=JH ag fX h e;rw[uo ag.asc ae]at this;cases this
  |some t=>exact iC.2 ⟨_,jH e,rfl⟩
 have au:=LM (Wx ag.asc) aP;simp only[List.length_map]at au;refine⟨jT au aI.1,fun b ae=>?_⟩;have J:=aeR (s:=s) fX h (v:=b.v);rw[cx,uo ag.asc ae]at J;obtain⟨c,aw,e⟩:=iC.1 (aP b.v (iC.2 ⟨b,ae,rfl⟩));have U:=aI.2 c aw;rw[cx,←e,uo fX.asc aw]at J;exact jT J U
def jf(E:List (T×T))(aN:Int→T):Prop:= ∀e∈E,e.1.ap aN=e.2.ap aN
theorem CA(aN:Int→T):jf [] aN:=fun _ h=>by simp at h
theorem qg{e:T×T}{E:List (T×T)}{aN:Int→T}:jf (e::E) aN↔e.1.ap aN=e.2.ap aN∧jf E aN:=by simp[jf]
theorem Cz{E vQ:List (T×T)}{aN:Int→T}:jf (E++vQ) aN↔jf E aN∧jf vQ aN:=by simp only[jf,ki];exact⟨fun h=>⟨fun e he=>h e (.inl he),fun e he=>h e (.inr he)⟩,fun h e he=>he.elim (h.1 e) (h.2 e)⟩
def ie(s:List aq)(E:List (T×T)):aW (List aq)→Prop
 |some ai=>(fu ai∧hg ai)∧∀aN,gC ai aN↔gC s aN∧jf E aN
 |none=> ∀ai,fu ai→(∀aN,gC ai aN→gC s aN∧jf E aN)→¬hg ai
theorem We{s:List aq}{E:List (T×T)}:∀{o o':aW (List aq)},ie s E o→ie s E o'→o=o'
 |none,none,_,_=>rfl
 |some s1,none,h,cp=>absurd h.1.2 (cp s1 h.1.1 fun aN=>(h.2 aN).1)
 |none,some s1,cp,h=>absurd h.1.2 (cp s1 h.1.1 fun aN=>(h.2 aN).1)
 |some s1,some s2,h,cp=>by rw[aiR h.1.1 cp.1.1 fun aN=>(h.2 aN).trans (cp.2 aN).symm]
theorem Ai{s s2:List aq}{E LP:List (T×T)}(h:∀aN,(gC s aN∧jf E aN)↔(gC s2 aN∧jf LP aN)):∀{o:aW (List aq)},ie s E o→ie s2 LP o
 |none,aJ=>fun ai J U=>aJ ai J fun aN hb=>(h aN).2 (U aN hb)
 |some s1,aJ=>⟨aJ.1,fun aN=>(aJ.2 aN).trans (h aN)⟩
theorem LY{s s1:List aq}{E vQ:List (T×T)}(h:ie s E (some s1)):∀{o:aW (List aq)},ie s1 vQ o→ie s (E++vQ) o
 |none,aJ=>fun ai J U=>aJ ai J fun aN hb=>⟨(h.2 aN).2 ⟨(U aN hb).1,(Cz.1 (U aN hb).2).1⟩,(Cz.1 (U aN hb).2).2⟩
 |some s2,aJ=>⟨aJ.1,fun aN=>by rw[aJ.2 aN,h.2 aN,Cz,and_assoc]⟩
theorem Gt{s:List aq}{E:List (T×T)}(vQ:List (T×T))(h:ie s E none):ie s (E++vQ) none:=fun ai J U=>h ai J fun aN hb=>⟨(U aN hb).1,(Cz.1 (U aN hb).2).1⟩
theorem C2{s:List aq}{E:List (T×T)}(h:∀aN,gC s aN→¬jf E aN):ie s E none:=fun ai J U=>absurd (U _ (xG J)).2 (h _ (U _ (xG J)).1)
theorem Gu{s:List aq}(ag:fu s)(aI:hg s):ie s [] (some s):=⟨⟨ag,aI⟩,fun aN=>⟨fun h=>⟨h,CA aN⟩,fun h=>h.1⟩⟩
def one(v:Int)(x:T)(w:Int):T:=if w=v then x else .var w
def nT(b:aq):List aq→List aq
 |[]=>[b]
 |c::s=>if b.v<c.v then b::c::s else c::nT b s
def lO(s:List aq)(v:Int)(x:T):List aq:=nT ⟨v,x⟩ (s.map fun b=>⟨b.v,b.t.ap (one v x)⟩)
theorem Jz{b x:aq}:∀{s:List aq},x∈nT b s↔x=b∨x∈s
 |[]=>by simp[nT]
 |c::s=>by
  simp only[nT];split
  ·simp
  ·simp only[fU,Jz (s:=s)];constructor
   ·rintro(h|h|h)
    ·exact .inr (.inl h)
    ·exact .inl h
    ·exact .inr (.inr h)
   ·rintro(h|h|h)
    ·exact .inr (.inl h)
    ·exact .inl h
    ·exact .inr (.inr h)
theorem R8{b:aq}:∀{s:List aq},(nT b s).length=s.length+1
 |[]=>rfl
 |c::s=>by simp only[nT];split<;>simp[R8]
theorem Mc{b:aq}:∀{s:List aq},h9 s→(∀c∈s,c.v≠b.v)→h9 (nT b s)
 |[],_,_=>by simp[nT]
 |c::s,bD,aA=>by
  have mw:=mg.1 bD;simp only[nT];split
  ·rename_i bu;refine mg.2 ⟨fun x ad=>?_,bD⟩;rcases fU.1 ad with rfl|ad
   ·exact bu
   ·have:=mw.1 x ad;omega
  ·rename_i ti;refine mg.2 ⟨fun x ad=>?_,Mc mw.2 fun c aw=>aA c (by simp[aw])⟩;rcases Jz.1 ad with rfl|ad
   ·have:=aA c (by simp);omega
   ·exact mw.1 x ad
theorem pq{s:List aq}{v:Int}{x:T}{b:aq}:b∈lO s v x↔b=⟨v,x⟩∨ ∃c∈s,b=⟨c.v,c.t.ap (one v x)⟩:=by unfold lO;rw[Jz,iC];refine or_congr Iff.rfl ⟨fun⟨c,J,U⟩=>⟨c,J,U.symm⟩,fun⟨c,J,U⟩=>⟨c,J,U.symm⟩⟩
theorem S5{v:Int}{x:T}{aN:Int→T}(h:aN v=x.ap aN)(t:T):(t.ap (one v x)).ap aN=t.ap aN:=by
 rw[Ak];refine sS fun w _=>?_;unfold one;split
 ·rename_i e;subst e;exact h.symm
 ·rfl
theorem C5{s:List aq}{v w:Int}{x:T}:dd (lO s v x) w=none↔w≠v∧dd s w=none:=by
 rw[uq,uq];constructor
 ·intro h;exact⟨fun e=>h ⟨v,x⟩ (pq.2 (.inl rfl)) e.symm,fun b ae=>h ⟨b.v,b.t.ap (one v x)⟩ (pq.2 (.inr ⟨b,ae,rfl⟩))⟩
 ·rintro⟨J,U⟩ b ae;rcases pq.1 ae with rfl|⟨c,aw,rfl⟩
  ·exact fun e=>J e.symm
  ·exact U c aw
theorem KY{s:List aq}(ag:fu s){t:T}{w:Int}(h:(t.ap (cx s)).occ w=true):dd s w=none:=by
 obtain⟨u,_,U⟩:=BZ.1 h;unfold cx at U;cases e:dd s u with
 |none=>rw[e]at U;simp[T.occ]at U;subst U;exact e
 |some t=>rw[e]at U;exact ag.free _ (jH e) w U
theorem aiQ{s:List aq}(ag:fu s){v:Int}{t:T}(aK:dd s v=none)(av:(t.ap (cx s)).occ v=false)(r4:∀w,t.ap (cx s)= .var w→w<v):fu (lO s v (t.ap (cx s))):=by
 have ad:∀w,(t.ap (cx s)).occ w=true→dd (lO s v (t.ap (cx s))) w=none:=fun w hw=>C5.2 ⟨fun e=>(by subst e;rw[av]at hw;cases hw),KY ag hw⟩;refine⟨Mc ?_ ?_,fun b ae w hw=>?_,fun b ae w hw=>?_⟩
 ·rw[h9,List.pairwise_map];exact ag.asc
 ·intro c aw;obtain⟨b,ae,rfl⟩:=iC.1 aw;exact uq.1 aK b ae
 ·rcases pq.1 ae with rfl|⟨c,aw,rfl⟩
  ·exact ad w hw
  ·obtain⟨u,J,U⟩:=BZ.1 hw;unfold one at U;split at U
   ·exact ad w U
   ·rename_i cC;simp[T.occ]at U;subst U;exact C5.2 ⟨cC,ag.free c aw _ J⟩
 ·rcases pq.1 ae with rfl|⟨c,aw,rfl⟩
  ·exact r4 w hw
  ·simp only at hw⊢;cases e:c.t with
   |var u=>
    have:=ag.ori c aw u e;rw[e]at hw;simp only[T.ap,one]at hw;split at hw
    ·rename_i aC;subst aC;have:=r4 w hw;omega
    ·cases hw;exact this
   |_=>rw[e]at hw;simp[T.ap]at hw
theorem Uw{s:List aq}{v:Int}{t:T}(aN:Int→T):gC (lO s v (t.ap (cx s))) aN↔gC s aN∧jf [(.var v,t)] aN:=by
 have aj:jf [(.var v,t)] aN↔aN v=t.ap aN:=by simp[jf,T.ap]
 rw[aj];constructor
 ·intro h;have bs:aN v=(t.ap (cx s)).ap aN:=h _ (pq.2 (.inl rfl));have J:gC s aN:=fun b ae=>by have:=h _ (pq.2 (.inr ⟨b,ae,rfl⟩));simp only at this;rw[S5 bs]at this;exact this
  exact⟨J,by rw[K0 J t];exact bs⟩
 ·rintro⟨J,U⟩ b ae;have bs:aN v=(t.ap (cx s)).ap aN:=by rw[←K0 J t];exact U
  rcases pq.1 ae with rfl|⟨c,aw,rfl⟩
  ·exact bs
  ·simp only;rw[S5 bs];exact J c aw
open Classical in
theorem Wb{s:List aq}(ag:fu s){v:Int}{t:T}(aK:dd s v=none)(av:(t.ap (cx s)).occ v=false)(r4:∀w,t.ap (cx s)= .var w→w<v):ie s [(.var v,t)] (if hg (lO s v (t.ap (cx s)))then some (lO s v (t.ap (cx s)))else none):=by
 have J:=aiQ ag aK av r4;split
 ·rename_i aI;exact⟨⟨J,aI⟩,Uw⟩
 ·rename_i aI;exact fun ai U al a6=>aI (Pp J U (fun aN hb=>(Uw aN).2 (al aN hb)) a6)
def gV(s:List aq):T→T
 | .var n=>cx s n
 |t=>t
def mY(s:List aq)(v:Int)(t:T):aW (List aq):=if(t.ap (cx s)).size≤5000∧(t.ap (cx s)).occ v=false∧s.length<400∧∀b∈s,(b.t.ap (one v (t.ap (cx s)))).size≤5000 then some (lO s v (t.ap (cx s)))else none
def jD(rec:List aq→T→T→aW (aW (List aq)))(s:List aq):T→T→aW (aW (List aq))
 | .var i,.var j=>some (if i<j then mY s j (.var i)else if i=j then some s else mY s i (.var j))
 | .var i,y=>some (mY s i y)
 |x,.var j=>some (mY s j x)
 | .pair bz a2,.pair b9 bZ=>match rec s bz b9 with
  |none=>none
  |some none=>some none
  |some (some s1)=>rec s1 a2 bZ
 |x,y=>some (if x=y then some s else none)
def kf:Nat→List aq→T→T→aW (aW (List aq))
 |0,_,_,_=>none
 |n+1,s,a,b=>jD (kf n) s (gV s a) (gV s b)
theorem aji{rec KB:List aq→T→T→aW (aW (List aq))}(h:∀s a b o,rec s a b=some o→KB s a b=some o){s:List aq}{x y:T}{o:aW (List aq)}(he:jD rec s x y=some o):jD KB s x y=some o:=by
 cases x<;>cases y<;>simp only[jD]at he⊢ <;>try exact he
 rename_i bz a2 b9 bZ;cases e:rec s bz b9 with
 |none=>rw[e]at he;cases he
 |some gF=>
  rw[e]at he;rw[h _ _ _ _ e];cases gF with
  |none=>exact he
  |some s1=>exact h _ _ _ _ he
theorem CE:∀{n m:Nat} {s:List aq} {a b:T} {o:aW (List aq)},n≤m→kf n s a b=some o→kf m s a b=some o
 |0,_,_,_,_,_,_,h=>by simp[kf]at h
 |n+1,0,_,_,_,_,hm,_=>by omega
 |n+1,m+1,s,a,b,o,hm,h=>by simp only[kf]at h⊢;exact aji (fun s a b o h=>CE (by omega) h) h
theorem HG{s:List aq}{v:Int}{x:T}:hg (lO s v x)↔(x.size≤5000∧s.length<400∧∀b∈s,(b.t.ap (one v x)).size≤5000):=by
 have au:(lO s v x).length=s.length+1:=by simp[lO,R8]
 unfold hg;rw[au];constructor
 ·rintro⟨J,U⟩;exact⟨U _ (pq.2 (.inl rfl)),by omega,fun b ae=>U _ (pq.2 (.inr ⟨b,ae,rfl⟩))⟩
 ·rintro⟨J,U,al⟩;refine⟨by omega,fun b ae=>?_⟩;rcases pq.1 ae with rfl|⟨c,aw,rfl⟩
  ·exact J
  ·exact al c aw
theorem Wc{s:List aq}(ag:fu s){v:Int}{t:T}(aK:dd s v=none)(cC:t.ap (cx s)≠ .var v)(r4:∀w,t.ap (cx s)= .var w→w<v):ie s [(.var v,t)] (mY s v t):=by
 unfold mY;cases av:(t.ap (cx s)).occ v with
 |true=>
  rw[if_neg (by simp)];refine C2 fun aN J U=>?_;have al:=(qg.1 U).1;simp only[T.ap]at al;rw[K0 J t]at al;have ab:(t.ap (cx s)).kind≠1:=by
   intro ab;cases e:t.ap (cx s)with
   |var w=>rw[e]at av;simp[T.occ]at av;subst av;exact cC e
   |_=>rw[e]at ab;simp[T.kind]at ab
  have:=(zk aN av).2 ab;rw[←al]at this;omega
 |false=>
  have J:=Wb ag aK av r4;by_cases aI:hg (lO s v (t.ap (cx s)))
  ·rw[if_pos aI]at J;rw[if_pos ⟨(HG.1 aI).1,rfl,(HG.1 aI).2⟩];exact J
  ·rw[if_neg aI]at J;rw[if_neg fun h=>aI (HG.2 ⟨h.1,h.2.2⟩)];exact J
theorem VB{s:List aq}(ag:fu s){t:T}{i:Int}(h:gV s t= .var i):dd s i=none:=by
 cases t with
 |var n=>
  simp only[gV,cx]at h;cases e:dd s n with
  |none=>rw[e]at h;simp at h;subst h;exact e
  |some u=>rw[e]at h;simp at h;subst h;exact ag.free _ (jH e) i (by simp[T.occ])
 |_=>simp[gV]at h
theorem LC{s:List aq}{aN:Int→T}(h:gC s aN)(t:T):(gV s t).ap aN=t.ap aN:=by
 cases t with
 |var n=>
  simp only[gV,T.ap,cx];cases e:dd s n with
  |none=>rfl
  |some u=>exact(h _ (jH e)).symm
 |_=>rfl
theorem VD{s:List aq}(ag:fu s)(t:T):(gV s t).ap (cx s)=t.ap (cx s):=LC (xG ag) t
def pd(V:List Int)(t:T):Prop:= ∀w,t.occ w=true→w∈V
def w1(V:List Int)(s:List aq):Prop:= ∀b∈s,b.v∈V∧pd V b.t
def yd(V:List Int)(s:List aq):Nat:=(V.filter fun v=>(dd s v).isNone).length
theorem Po{α:Type}{p q:α→Bool}{v:α}:∀{V:List α},(∀x∈V,q x=true→p x=true)→v∈V→p v=true→q v=false→(V.filter q).length<(V.filter p).length
 |[],_,h,_,_=>by simp at h
 |x::V,h,aK,bF,bp=>by
  have hle:∀W:List α,(∀x∈W,q x=true→p x=true)→(W.filter q).length≤(W.filter p).length:=by
   intro W;induction W with
   |nil=>intro _;simp
   |cons y W bM=>intro AU;have:=bM fun x ad=>AU x (by simp[ad]);have aL:=AU y (by simp);simp only[List.filter_cons];cases e:q y<;>cases aC:p y<;>simp_all<;>omega
  simp only[List.filter_cons];rcases fU.1 aK with rfl|aK
  ·have:=hle V fun x ad=>h x (by simp[ad]);simp[bF,bp];omega
  ·have:=Po (fun x ad=>h x (oW _ ad)) aK bF bp;have ad:=h x (by simp);cases e:q x<;>cases aC:p x<;>simp_all<;>omega
theorem Xy{V:List Int}{s:List aq}{v:Int}{x:T}(aK:v∈V)(aA:dd s v=none):yd V (lO s v x)<yd V s:=by
 unfold yd;refine Po (v:=v) (fun w _ h=>?_) aK (by simp[aA]) ?_
 ·rw[Option.isNone_iff_eq_none,C5]at h;simp[h.2]
 ·cases e:dd (lO s v x) v with
  |none=>exact absurd rfl (C5.1 e).1
  |some _=>rfl
theorem Rc{V:List Int}{s:List aq}(h:w1 V s){t:T}(aO:pd V t):pd V (t.ap (cx s)):=fun w hw=>by
 obtain⟨u,J,U⟩:=BZ.1 hw;unfold cx at U;cases e:dd s u with
 |none=>rw[e]at U;simp[T.occ]at U;subst U;exact aO _ J
 |some x=>rw[e]at U;exact(h _ (jH e)).2 w U
theorem adr{V:List Int}{s:List aq}(h:w1 V s){v:Int}{x:T}(aK:v∈V)(ad:pd V x):w1 V (lO s v x):=fun b ae=>by
 rcases pq.1 ae with rfl|⟨c,aw,rfl⟩
 ·exact⟨aK,ad⟩
 ·refine⟨(h c aw).1,fun w hw=>?_⟩;obtain⟨u,J,U⟩:=BZ.1 hw;unfold one at U;split at U
  ·exact ad w U
  ·simp[T.occ]at U;subst U;exact(h c aw).2 _ J
theorem Re{V:List Int}{s:List aq}(h:w1 V s){t:T}(aO:pd V t):pd V (gV s t):=by
 cases t with
 |var n=>have:=Rc h aO;simpa[gV,T.ap]using this
 |_=>exact aO
def Ah(V:List Int)(s:List aq)(a b:T)(o:aW (List aq)):Prop:=ie s [(a,b)] o∧∀ai,o=some ai→w1 V ai∧(ai=s∨yd V ai<yd V s)
theorem CF{V:List Int}{s:List aq}(ag:fu s)(jK:w1 V s){v:Int}{t a b:T}(aK:v∈V)(aO:pd V t)(aA:dd s v=none)(cC:t.ap (cx s)≠ .var v)(r4:∀w,t.ap (cx s)= .var w→w<v)(aw:∀aN,gC s aN→(aN v=t.ap aN↔a.ap aN=b.ap aN)):Ah V s a b (mY s v t):=by
 refine⟨Ai (fun aN=>?_) (Wc ag aA cC r4),fun ai h=>?_⟩
 ·refine and_congr_right fun h=>?_;rw[qg,qg];simp only[T.ap,aw aN h]
 ·unfold mY at h;split at h
  ·cases h;exact⟨adr jK aK (Rc jK aO),.inr (Xy aK aA)⟩
  ·cases h
theorem zL{s:List aq}{i:Int}(h:dd s i=none):cx s i= .var i:=by simp[cx,h]
theorem U6(V:List Int)(k:Nat):∀(m:Nat) (s:List aq) (a b:T),fu s→hg s→w1 V s→pd V a→pd V b→yd V s=k→(a.ap (cx s)).size+(b.ap (cx s)).size=m→
  ∃n o,kf n s a b=some o∧Ah V s a b o:=by
 induction k using Nat.strongRecOn with
 |ind k IU=>
 intro m;induction m using Nat.strongRecOn with
 |ind m yZ=>
 intro s a b ag aI jK bD ae ab hm;have ad:=Re jK bD;have aL:=Re jK ae;have K9:=VD ag a;have La:=VD ag b;have sT:=fun aN (h:gC s aN)=>LC h a;have mW:=fun aN (h:gC s aN)=>LC h b;have pZ:=fun i=>VB ag (t:=a) (i:=i);have HK:=fun i=>VB ag (t:=b) (i:=i);have key:∀(rec:List aq→T→T→aW (aW (List aq))) (o:aW (List aq)),jD rec s (gV s a) (gV s b)=some o→(∀bz a2 b9 bZ,gV s a= .pair bz a2→gV s b= .pair b9 bZ→Ah V s a b o)→Ah V s a b o:=by
  intro rec o he bF;cases ex:gV s a with
  |var i=>
   have DD:=pZ i ex;have pS:=fun aN h=>(sT aN h).symm.trans (by rw[ex]);cases hK:gV s b with
   |var j=>
    have wo:=HK j hK;have ou:=fun aN h=>(mW aN h).symm.trans (by rw[hK]);rw[ex,hK]at he;simp only[jD]at he;have hi:i∈V:=by rw[ex]at ad;exact ad i (by simp[T.occ])
    have af:j∈V:=by rw[hK]at aL;exact aL j (by simp[T.occ])
    rcases Int.lt_trichotomy i j with h|h|h
    ·rw[if_pos h]at he;cases he;refine CF ag jK af (by rw[ex]at ad;exact ad) wo (by simp[T.ap,zL DD];omega) (fun w hw=>by simp[T.ap,zL DD]at hw;omega) fun aN hb=>?_;rw[pS aN hb,ou aN hb];simp only[T.ap];exact⟨Eq.symm,Eq.symm⟩
    ·subst h;rw[if_neg (by omega),if_pos rfl]at he;cases he;refine⟨⟨⟨ag,aI⟩,fun aN=>⟨fun h=>⟨h,qg.2 ⟨?_,CA aN⟩⟩,fun h=>h.1⟩⟩,fun ai e=>by cases e;exact⟨jK,.inl rfl⟩⟩;simp only;rw[pS aN h,ou aN h]
    ·rw[if_neg (by omega),if_neg (by omega)]at he;cases he;refine CF ag jK hi (by rw[hK]at aL;exact aL) DD (by simp[T.ap,zL wo];omega) (fun w hw=>by simp[T.ap,zL wo]at hw;omega) fun aN hb=>?_;rw[pS aN hb,ou aN hb];simp only[T.ap]
   |_=>have ou:=fun aN h=>(mW aN h).symm.trans (by rw[hK]);rw[ex,hK]at he;simp only[jD]at he;cases he;refine CF ag jK (by rw[ex]at ad;exact ad i (by simp[T.occ])) (by rw[hK]at aL;exact aL) DD (by simp[T.ap]) (fun w hw=>by simp[T.ap]at hw) fun aN hb=>?_;rw[pS aN hb,ou aN hb];simp only[T.ap]
  |pair bz a2=>
   cases hK:gV s b with
   |pair b9 bZ=>exact bF bz a2 b9 bZ ex hK
   |var j=>have wo:=HK j hK;have pS:=fun aN h=>(sT aN h).symm.trans (by rw[ex]);have ou:=fun aN h=>(mW aN h).symm.trans (by rw[hK]);rw[ex,hK]at he;simp only[jD]at he;cases he;refine CF ag jK (by rw[hK]at aL;exact aL j (by simp[T.occ])) (by rw[ex]at ad;exact ad) wo (by simp[T.ap]) (fun w hw=>by simp[T.ap]at hw) fun aN hb=>?_;rw[pS aN hb,ou aN hb];simp only[T.ap];exact⟨Eq.symm,Eq.symm⟩
   |_=>have pS:=fun aN h=>(sT aN h).symm.trans (by rw[ex]);have ou:=fun aN h=>(mW aN h).symm.trans (by rw[hK]);rw[ex,hK]at he;simp only[jD]at he;simp at he;subst he;refine⟨C2 fun aN J U=>?_,fun ai e=>by cases e⟩;have:=(qg.1 U).1;simp only at this;rw[pS aN J,ou aN J]at this;simp[T.ap]at this
  |_=>
   have pS:=fun aN h=>(sT aN h).symm.trans (by rw[ex]);cases hK:gV s b with
   |var j=>have wo:=HK j hK;have ou:=fun aN h=>(mW aN h).symm.trans (by rw[hK]);rw[ex,hK]at he;simp only[jD]at he;cases he;refine CF ag jK (by rw[hK]at aL;exact aL j (by simp[T.occ])) (by rw[ex]at ad;exact ad) wo (by simp[T.ap]) (fun w hw=>by simp[T.ap]at hw) fun aN hb=>?_;rw[pS aN hb,ou aN hb];simp only[T.ap];exact⟨Eq.symm,Eq.symm⟩
   |_=>
    have ou:=fun aN h=>(mW aN h).symm.trans (by rw[hK]);rw[ex,hK]at he;simp only[jD,dz]at he;split at he
    ·rename_i e;subst he;refine⟨⟨⟨ag,aI⟩,fun aN=>⟨fun h=>⟨h,qg.2 ⟨?_,CA aN⟩⟩,fun h=>h.1⟩⟩,fun ai e=>by cases e;exact⟨jK,.inl rfl⟩⟩;simp only;rw[pS aN h,ou aN h];try rw[e]
    ·rename_i e;subst he;refine⟨C2 fun aN J U=>?_,fun ai e=>by cases e⟩;have:=(qg.1 U).1;simp only at this;rw[pS aN J,ou aN J]at this;simp[T.ap]at this e;try exact e this
 by_cases Ec:∃bz a2 b9 bZ,gV s a= .pair bz a2∧gV s b= .pair b9 bZ
 ·obtain⟨bz,a2,b9,bZ,ex,hK⟩:=Ec;have dW:(bz.ap (cx s)).size+(b9.ap (cx s)).size<m∧(a2.ap (cx s)).size+(bZ.ap (cx s)).size<m:=by rw[ex]at K9;rw[hK]at La;simp only[T.ap]at K9 La;rw[←hm,←K9,←La];simp only[T.size];omega
  have kE:pd V bz:=fun w hw=>by rw[ex]at ad;exact ad w (by simp[T.occ,hw])
  have o7:pd V a2:=fun w hw=>by rw[ex]at ad;exact ad w (by simp[T.occ,hw])
  have kY:pd V b9:=fun w hw=>by rw[hK]at aL;exact aL w (by simp[T.occ,hw])
  have oH:pd V bZ:=fun w hw=>by rw[hK]at aL;exact aL w (by simp[T.occ,hw])
  have Qg:∀aN,(gC s aN∧jf ([(bz,b9)]++[(a2,bZ)]) aN)↔(gC s aN∧jf [(a,b)] aN):=fun aN=>and_congr_right fun h=>by simp only[List.singleton_append,qg,CA,and_true];rw[←sT aN h,←mW aN h,ex,hK];simp[T.ap]
  obtain⟨hX,gF,aj,cL⟩:=yZ _ dW.1 s bz b9 ag aI jK kE kY ab rfl;cases gF with
  |none=>refine⟨hX+1,none,?_,Ai Qg (Gt _ cL.1),fun ai e=>by cases e⟩;simp only[kf,ex,hK,jD,aj]
  |some s1=>
   obtain⟨v1,v2⟩:=cL.2 s1 rfl;have Bo:∃fZ gy,kf fZ s1 a2 bZ=some gy∧Ah V s1 a2 bZ gy:=by
    rcases v2 with rfl|v2
    ·exact yZ _ dW.2 _ a2 bZ ag aI jK o7 oH ab rfl
    ·exact IU _ (by omega) _ s1 a2 bZ cL.1.1.1 cL.1.1.2 v1 o7 oH rfl rfl
   obtain⟨fZ,gy,aC,dm⟩:=Bo;refine⟨max hX fZ+1,gy,?_,Ai Qg (LY cL.1 dm.1),fun ai e=>?_⟩
   ·simp only[kf,ex,hK,jD,CE (Nat.le_max_left hX fZ) aj];exact CE (Nat.le_max_right hX fZ) aC
   ·obtain⟨eD,dq⟩:=dm.2 ai e;refine⟨eD,?_⟩;rcases v2 with rfl|v2
    ·exact dq
    ·rcases dq with rfl|dq
     ·exact .inr v2
     ·exact .inr (by omega)
 ·have QL:∀bz a2 b9 bZ,gV s a= .pair bz a2→gV s b= .pair b9 bZ→eI:=fun bz a2 b9 bZ J U=>Ec ⟨bz,a2,b9,bZ,J,U⟩;have:∃o,jD (kf 0) s (gV s a) (gV s b)=some o:=by cases ex:gV s a<;>cases hK:gV s b<;>simp only[jD]<;>first|exact⟨_,rfl⟩|exact(QL _ _ _ _ ex hK).elim
  obtain⟨o,av⟩:=this;exact⟨1,o,av,key _ o av fun bz a2 b9 bZ J U=>(QL bz a2 b9 bZ J U).elim⟩
def cW{α:Type}(k:Int):List (Int×α)→aW α
 |[]=>none
 |(i,v)::r=>if k=i then some v else cW k r
def eH{α:Type}(k:Int)(v:α):List (Int×α)→List (Int×α)
 |[]=>[(k,v)]
 |(i,w)::r=>if k=i then(i,v)::r else(i,w)::eH k v r
def ck{α:Type}(m:List (Int×α)):List Int:=m.map (·.1)
theorem mO{α:Type}(k:Int)(v:α)(j:Int):∀m:List (Int×α),cW j (eH k v m)=if j=k then some v else cW j m
 |[]=>by simp only[eH,cW]
 |(i,w)::r=>by
  simp only[eH];by_cases h:k=i
  ·subst h;by_cases U:j=k<;>simp[cW,U]
  ·by_cases U:j=i
   ·subst U;have:¬j=k:=fun e=>h e.symm;simp[cW,h,this]
   ·simp[cW,h,U,mO k v j r]
theorem FX{α:Type}{k:Int}:∀{m:List (Int×α)},(cW k m).isSome=true↔k∈ck m
 |[]=>by simp[cW,ck]
 |(i,w)::r=>by
  simp only[cW,ck,gX,fU];by_cases h:k=i
  ·simp[h]
  ·simp only[h,if_false,false_or];exact FX
theorem ajd{α:Type}{k:Int}{m:List (Int×α)}:cW k m=none↔k∉ck m:=by rw[←FX];cases cW k m<;>simp
theorem BG{α:Type}{k:Int}{v:α}:∀{m:List (Int×α)},k∈ck m→ck (eH k v m)=ck m
 |[],h=>by simp[ck]at h
 |(i,w)::r,h=>by
  simp only[eH];by_cases e:k=i
  ·simp[e,ck]
  ·rw[if_neg e];have cp:k∈ck r:=by simpa[ck,e]using h
   have:=BG (v:=v) cp;simp only[ck]at this⊢;simp[this]
theorem RH{α:Type}{k:Int}{v:α}:∀{m:List (Int×α)},k∉ck m→ck (eH k v m)=ck m++[k]
 |[],h=>by simp[ck,eH]
 |(i,w)::r,h=>by have e:¬k=i:=fun e=>h (by simp[ck,e]);have cp:k∉ck r:=fun ab=>h (by simp[ck]at ab⊢;exact .inr ab);have:=RH (v:=v) cp;simp only[eH,if_neg e];simp only[ck]at this⊢;simp[this]
structure bq where
 up:List (Int×Int)
 shape:List (Int×T)
 shaped:List (Int×Bool)
 color:List (Int×Int)
 size:List (Int×Int)
 full:List (Int×T)
def bq.shd(c:bq)(x:Int):Bool:=(cW x c.shaped).getD false
def bq.shp(c:bq)(x:Int):T:=(cW x c.shape).getD .nil
def bq.col(c:bq)(x:Int):Int:=(cW x c.color).getD 0
def bq.sz(c:bq)(x:Int):Int:=(cW x c.size).getD 0
def iB(m:List (Int×Int))(v:Int):Int:=(cW v m).getD 0
def vz:Nat→List (Int×Int)→Int→aW (Int×List (Int×Int))
 |0,_,_=>none
 |n+1,m,v=>if iB m v=v then some (v,m)else vz n (eH v (iB m (iB m v)) m) (iB (eH v (iB m (iB m v)) m) v)
def x1(v:Int)(m:List (Int×Int)):List (Int×Int):=if(cW v m).isSome then m else eH v v m
def rt(c:bq)(v:Int):aW (Int×bq):=(vz (v.toNat+1) (x1 v c.up) v).map fun p=>(p.1,{c with up:=p.2})
def T.foldO{α:Type}(f:Int→α→aW α):T→α→aW α
 | .var n,a=>f n a
 | .pair x y,a=>(x.foldO f a).bind (y.foldO f)
 |_,a=>some a
def T.mapO{α:Type}(f:Int→α→aW (T×α)):T→α→aW (T×α)
 | .var n,a=>f n a
 | .pair x y,a=>(x.mapO f a).bind fun p=>(y.mapO f p.2).map fun q=>(.pair p.1 q.1,q.2)
 |t,a=>some (t,a)
def T.sizeO{α:Type}(f:Int→α→aW (Int×α)):T→α→aW (Int×α)
 | .var n,a=>(f n a).map fun p=>(if 5001<p.1 then 5001 else p.1,p.2)
 | .pair x y,a=>(x.sizeO f a).bind fun p=>if 5000<p.1 then some p else(y.sizeO f p.2).map fun q=>(if 5001<1+p.1+q.1 then 5001 else 1+p.1+q.1,q.2)
 |_,a=>some (1,a)
def zb(t:T)(c:bq):aW bq:=t.foldO (fun v c=>(rt c v).map (·.2)) c
structure sM where
 c:bq
 seen:List (Int×Bool)
 found:Bool
def vx(rec:T→bq→List (Int×Bool)→aW sM)(x:Int)(v:Int)(a:sM):aW sM:=
 (rt a.c v).bind fun p=>if a.found=true∨p.1=x then some ⟨p.2,a.seen,true⟩
  else if(cW p.1 a.seen).getD false=false∧p.2.shd p.1=true then rec (p.2.shp p.1) p.2 (eH p.1 true a.seen)
  else some ⟨p.2,a.seen,a.found⟩
def oQ:Nat→Int→T→bq→List (Int×Bool)→aW sM
 |0,_,_,_,_=>none
 |n+1,x,t,c,seen=>t.foldO (vx (oQ n x) x) ⟨c,seen,false⟩
def bq.know(c:bq)(x:Int)(t:T):bq:={c with shape:=eH x t c.shape,shaped:=eH x true c.shaped}
def tC(n:Nat)(x:Int)(t:T)(c:bq):aW (Bool×bq):=(oQ n x t (c.know x t) []).map fun a=>(!a.found,a.c)
def bq.join(c:bq)(x y:Int):bq:={c with up:=eH y x c.up}
def qy(rec:T→T→bq→aW (Bool×bq))(n:Nat)(x y:Int)(c:bq):aW (Bool×bq):=
 if c.shd y=false then
  (if c.shd x=false then some (true,c)else(oQ n x (c.shp x) c []).map fun a=>(!a.found,a.c))
 else if c.shd x=false then tC n x (c.shp y) c
 else(oQ n x (c.shp y) c []).bind fun a=>if a.found=true then some (false,a.c)else
  (oQ n x (a.c.shp x) a.c []).bind fun b=>if b.found=true then some (false,b.c)else rec (b.c.shp x) (c.shp y) b.c
def gk:Nat→T→T→bq→aW (Bool×bq)
 |0,_,_,_=>none
 |n+1,.var i,.var j,c=>(rt c i).bind fun p=>(rt p.2 j).bind fun q=>if p.1=q.1 then some (true,q.2)else if q.1<p.1 then qy (gk n) n q.1 p.1 (q.2.join q.1 p.1)else qy (gk n) n p.1 q.1 (q.2.join p.1 q.1)
 |n+1,.var i,b,c=>(rt c i).bind fun p=>if p.2.shd p.1=false then tC n p.1 b p.2 else gk n (p.2.shp p.1) b p.2
 |n+1,a,.var j,c=>gk n (.var j) a c
 |n+1,.pair bz a2,.pair b9 bZ,c=>(gk n bz b9 c).bind fun p=>if p.1=true then gk n a2 bZ p.2 else some (false,p.2)
 |_+1,a,b,c=>some (decide (a=b),c)
structure je (m:List (Int×Int)) (ρ:Int→Int):Prop where
 up:∀v u,cW v m=some u→(0≤u∧u≤v∧u∈ck m)∧ρ u=ρ v∧(ρ v=v↔u=v)
 no:∀v,v∉ck m→ρ v=v
theorem je.get{m:List (Int×Int)}{ρ:Int→Int}(h:je m ρ){v:Int}(aK:v∈ck m):∃u,cW v m=some u∧iB m v=u:=by have:=FX.2 aK;obtain⟨u,hu⟩:=fE.1 this;exact⟨u,hu,by simp[iB,hu]⟩
theorem je.root{m:List (Int×Int)}{ρ:Int→Int}(h:je m ρ):∀(n:Nat) (v:Int),v.toNat≤n→(ρ v≤v∧ρ (ρ v)=ρ v∧(v∈ck m→ρ v∈ck m∧0≤ρ v)):=by
 intro n;induction n using Nat.strongRecOn with
 |ind n bM=>
 intro v aA;by_cases aK:v∈ck m
 ·obtain⟨u,J,_⟩:=h.get aK;obtain⟨⟨bz,a2,a3⟩,a4,a5⟩:=h.up v u J;by_cases e:u=v
  ·have:=a5.2 e;subst e;rw[this];exact⟨by omega,this,fun _=>⟨a3,bz⟩⟩
  ·obtain⟨b9,bZ,fy⟩:=bM (u.toNat) (by omega) u (by omega);rw[←a4];exact⟨by omega,bZ,fun _=>fy a3⟩
 ·have:=h.no v aK;rw[this];exact⟨by omega,this,fun h=>absurd h aK⟩
theorem je.le{m:List (Int×Int)}{ρ:Int→Int}(h:je m ρ)(v:Int):ρ v≤v:=(h.root v.toNat v (eQ _)).1
theorem je.idem{m:List (Int×Int)}{ρ:Int→Int}(h:je m ρ)(v:Int):ρ (ρ v)=ρ v:=(h.root v.toNat v (eQ _)).2.1
theorem je.mem{m:List (Int×Int)}{ρ:Int→Int}(h:je m ρ){v:Int}(aK:v∈ck m):ρ v∈ck m∧0≤ρ v:=(h.root v.toNat v (eQ _)).2.2 aK
theorem Uo{ρ:Int→Int}:∀(n:Nat) (m:List (Int×Int)) (v:Int),je m ρ→v∈ck m→v.toNat<n→∃hd,vz n m v=some (ρ v,hd)∧je hd ρ∧ck hd=ck m
 |0,_,_,_,_,aA=>by omega
 |n+1,m,v,h,aK,aA=>by
  obtain⟨u,J,U⟩:=h.get aK;obtain⟨⟨bz,a2,a3⟩,a4,a5⟩:=h.up v u J;simp only[vz,U];by_cases e:u=v
  ·rw[if_pos e];have:=a5.2 e;exact⟨m,by rw[this],h,rfl⟩
  ·rw[if_neg e];obtain⟨x,g1,g2⟩:=h.get a3;obtain⟨⟨b9,bZ,fy⟩,ov,Mg⟩:=h.up u x g1;rw[g2];have ab:=BG (v:=x) aK;have lA:je (eH v x m) ρ:=by
    refine⟨fun w y hw=>?_,fun w hw=>h.no w (by rw[ab]at hw;exact hw)⟩;rw[mO]at hw;rw[ab];by_cases ew:w=v
    ·subst ew;rw[if_pos rfl]at hw;cases hw;refine⟨⟨b9,by omega,fy⟩,by rw[ov,a4],⟨fun aJ=>absurd (a5.1 aJ) e,fun ad=>?_⟩⟩;have:u=w:=by omega
     exact absurd this e
    ·rw[if_neg ew]at hw;exact h.up w y hw
   have ac5:iB (eH v x m) v=x:=by simp[iB,mO]
   rw[ac5];obtain⟨hd,bE,cc,c8⟩:=Uo n (eH v x m) x lA (by rw[ab];exact fy) (by omega);exact⟨hd,by rw[bE,ov,a4],cc,by rw[c8,ab]⟩
structure ic (ρ:Int→Int) (c ch:bq):Prop where
 ru:je ch.up ρ
 keys:ck ch.up=ck c.up
 eq:ch={c with up:=ch.up}
theorem ic.refl{ρ:Int→Int}{c:bq}(h:je c.up ρ):ic ρ c c:=⟨h,rfl,rfl⟩
theorem ic.trans{ρ:Int→Int}{a b c:bq}(h:ic ρ a b)(k:ic ρ b c):ic ρ a c:=⟨k.ru,k.keys.trans h.keys,by rw[k.eq,h.eq]⟩
theorem ic.shd{ρ:Int→Int}{c ch:bq}(h:ic ρ c ch)(x:Int):ch.shd x=c.shd x:=by rw[h.eq];rfl
theorem ic.shp{ρ:Int→Int}{c ch:bq}(h:ic ρ c ch)(x:Int):ch.shp x=c.shp x:=by rw[h.eq];rfl
theorem sr{ρ:Int→Int}{c:bq}{v:Int}(h:je c.up ρ)(aK:v∈ck c.up):∃ch,rt c v=some (ρ v,ch)∧ic ρ c ch:=by
 have bD:x1 v c.up=c.up:=by simp[x1,FX.2 aK]
 obtain⟨hd,J,U,al⟩:=Uo (v.toNat+1) c.up v h aK (by omega);exact⟨{c with up:=hd},by simp[rt,bD,J],⟨U,al,rfl⟩⟩
theorem aii{ρ:Int→Int}{c:bq}{v:Int}(h:je c.up ρ)(bs:0≤v)(aK:v∉ck c.up):rt c v=some (v,{c with up:=eH v v c.up})∧je (eH v v c.up) ρ∧ck (eH v v c.up)=ck c.up++[v]:=by
 have aA:=ajd.2 aK;have ab:=RH (v:=v) aK;refine⟨?_,⟨fun w u hw=>?_,fun w hw=>h.no w fun hm=>hw (by rw[ab];simp[hm])⟩,ab⟩
 ·simp[rt,x1,aA,vz,iB,mO]
 ·rw[mO]at hw;rw[ab];by_cases e:w=v
  ·subst e;rw[if_pos rfl]at hw;cases hw;exact⟨⟨bs,by omega,by simp⟩,rfl,⟨fun _=>rfl,fun _=>h.no _ aK⟩⟩
  ·rw[if_neg e]at hw;obtain⟨⟨bz,a2,a3⟩,a4⟩:=h.up w u hw;exact⟨⟨bz,a2,by simp[a3]⟩,a4⟩
def bq.ph(c:bq)(x:Int):aW T:=if c.shd x then some (c.shp x)else none
theorem ic.ph{ρ:Int→Int}{c ch:bq}(h:ic ρ c ch):ch.ph=c.ph:=by funext x;simp only[bq.ph,h.shd,h.shp]
def jF(ph:Int→aW T)(ρ:Int→Int)(aN:Int→T):Prop:=(∀v,aN v=aN (ρ v))∧∀x t,ρ x=x→ph x=some t→aN x=t.ap aN
def iD(ph:Int→aW T)(ρ:Int→Int)(z u:Int):Prop:=ρ z=z∧∃t w,ph z=some t∧t.occ w=true∧ρ w=u
inductive mi (E:Int→Int→Prop):Int→Int→Prop
 |refl (a:Int):mi E a a
 |step {a b c:Int}:E a b→mi E b c→mi E a c
def nD(V:List Int)(ph:Int→aW T):Prop:= ∀x t,ph x=some t→t.kind≠1∧(∀w,t.occ w=true→w∈V)∧x∈V
def F2(V:List Int)(ph:Int→aW T)(seen:List (Int×Bool)):Nat:=(V.filter fun v=>(ph v).isSome&& !((cW v seen).getD false)).length
def lZ(seen:List (Int×Bool))(z:Int):Prop:=(cW z seen).getD false=true
structure V5 (V:List Int) (ph:Int→aW T) (ρ:Int→Int) (x:Int) (occ:Int→Prop) (a bj:sM):Prop where
 sm:ic ρ a.c bj.c
 sub:∀z,lZ a.seen z→lZ bj.seen z
 yes:bj.found=true→a.found=true∨ ∃w,occ w∧mi (iD ph ρ) (ρ w) x
 kept:a.found=true→bj.found=true
 no:bj.found=false→(∀w,occ w→ρ w≠x∧((ph (ρ w)).isSome=true→lZ bj.seen (ρ w)))∧∀r,lZ bj.seen r→¬lZ a.seen r→∀u,iD ph ρ r u→u≠x∧((ph u).isSome=true→lZ bj.seen u)
theorem DE{α:Type}{p q:α→Bool}:∀{V:List α},(∀x∈V,q x=true→p x=true)→(V.filter q).length≤(V.filter p).length
 |[],_=>by simp
 |y::V,h=>by have:=DE (p:=p) (q:=q) (V:=V) fun x ad=>h x (by simp[ad]);have aL:=h y (by simp);simp only[List.filter_cons];cases e:q y<;>cases aC:p y<;>simp_all<;>omega
theorem DF{α:Type}{p q:α→Bool}{v:α}:∀{V:List α},(∀x∈V,q x=true→p x=true)→v∈V→p v=true→q v=false→(V.filter q).length<(V.filter p).length
 |[],_,h,_,_=>by simp at h
 |x::V,h,aK,bF,bp=>by
  have hle:=DE (p:=p) (q:=q) (V:=V) fun x ad=>h x (oW _ ad);simp only[List.filter_cons];rcases fU.1 aK with rfl|aK
  ·simp[bF,bp];omega
  ·have:=DF (fun x ad=>h x (oW _ ad)) aK bF bp;have ad:=h x (by simp);cases e:q x<;>cases aC:p x<;>simp_all<;>omega
theorem ajk{V:List Int}{ph:Int→aW T}{s ai:List (Int×Bool)}(h:∀z,lZ s z→lZ ai z):F2 V ph ai≤F2 V ph s:=
 DE fun x _ ad=>by
  simp only[cA,Bool.not_eq_true']at ad⊢;refine⟨ad.1,?_⟩;cases e:(cW x s).getD false with
  |false=>rfl
  |true=>have:=h x e;unfold lZ at this;rw[ad.2]at this;cases this
theorem IW{s:List (Int×Bool)}{r z:Int}:lZ (eH r true s) z↔z=r∨lZ s z:=by unfold lZ;rw[mO];by_cases h:z=r<;>simp[h]
theorem ah9{V:List Int}{ph:Int→aW T}{ρ:Int→Int}{x:Int}(gq:nD V ph)(k:Nat):∀(t:T) (a:sM),je a.c.up ρ→ck a.c.up=V→a.c.ph=ph→(∀w,t.occ w=true→w∈V)→F2 V ph a.seen≤k→
  ∃N bj,(∀n,N≤n→t.foldO (vx (oQ n x) x) a=some bj)∧V5 V ph ρ x (fun w=>t.occ w=true) a bj:=by
 induction k using Nat.strongRecOn with
 |ind k IU=>
 intro t;induction t with
 |var v=>
  intro a lA ab iV aO Bu;obtain⟨bE,J,U⟩:=sr lA (by rw[ab];exact aO v (by simp[T.occ]));have lB:bE.shd (ρ v)=(ph (ρ v)).isSome:=by rw[U.shd,←iV];simp only[bq.ph];split<;>simp_all
  by_cases aI:a.found=true∨ρ v=x
  ·refine⟨0,⟨bE,a.seen,true⟩,fun n _=>by simp[T.foldO,vx,J,aI],U,fun z bC=>bC,fun _=>?_,fun _=>rfl,fun h=>by cases h⟩;rcases aI with aI|aI
   ·exact .inl aI
   ·exact .inr ⟨v,by simp[T.occ],by rw[aI];exact .refl _⟩
  ·by_cases ag:(cW (ρ v) a.seen).getD false=false∧bE.shd (ρ v)=true
   ·have Eb:ph (ρ v)=some (bE.shp (ρ v)):=by rw[←iV];simp only[bq.ph,U.shp];rw[if_pos (by rw[←U.shd];exact ag.2)]
    obtain⟨g1,g2,g3⟩:=gq _ _ Eb;have bu:F2 V ph (eH (ρ v) true a.seen)<k:=by
     refine Nat.lt_of_lt_of_le (DF (v:=ρ v) (fun z _ bC=>?_) g3 ?_ ?_) Bu
     ·simp only[cA,Bool.not_eq_true']at bC⊢;refine⟨bC.1,?_⟩;rw[mO]at bC;by_cases e:z=ρ v
      ·subst e;exact ag.1
      ·rw[if_neg e]at bC;exact bC.2
     ·simp[Eb,ag.1]
     ·simp[mO]
    obtain⟨N,bj,aj,cL⟩:=IU _ bu (bE.shp (ρ v)) ⟨bE,eH (ρ v) true a.seen,false⟩ U.ru (by rw[U.keys];exact ab) (by rw[U.ph];exact iV) g2 (eQ _);refine⟨N+1,bj,fun n aA=>?_,U.trans cL.sm,fun z bC=>cL.sub z (IW.2 (.inr bC)),fun aL=>?_,fun h=>absurd (.inl h) aI,fun de=>?_⟩
    ·obtain⟨n',rfl⟩:∃n',n=n'+1:=⟨n-1,by omega⟩;simp only[T.foldO,vx,J,kA,if_neg aI,if_pos ag,oQ];exact aj n' (by omega)
    ·rcases cL.yes aL with h|⟨w,aZ,bB⟩
     ·cases h
     ·exact .inr ⟨v,by simp[T.occ],.step ⟨by rw[je.idem lA],_,w,Eb,aZ,rfl⟩ bB⟩
    ·obtain⟨aZ,bB⟩:=cL.no de;have iT:lZ bj.seen (ρ v):=cL.sub _ (IW.2 (.inl rfl));refine⟨fun w hw=>?_,fun r aJ dx u hu=>?_⟩
     ·simp[T.occ]at hw;subst hw;exact⟨fun e=>aI (.inr e),fun _=>iT⟩
     ·by_cases pY:r=ρ v
      ·subst pY;obtain⟨_,dD,w,kv,z2,rfl⟩:=hu;rw[Eb]at kv;cases kv;exact aZ w z2
      ·exact bB r aJ (fun h=>(IW.1 h).elim pY dx) u hu
   ·have A3:a.found=false:=by cases e:a.found with
     |false=>rfl
     |true=>exact absurd (.inl e) aI
    refine⟨0,⟨bE,a.seen,a.found⟩,fun n _=>by simp only[T.foldO,vx,J,kA,if_neg aI,if_neg ag],U,fun z bC=>bC,fun h=>.inl h,fun h=>h,fun _=>⟨fun w hw=>?_,fun r J U=>absurd J U⟩⟩;simp[T.occ]at hw;subst hw;refine⟨fun e=>aI (.inr e),fun bF=>?_⟩;unfold lZ;cases e:(cW (ρ v) a.seen).getD false with
    |true=>rfl
    |false=>exact absurd ⟨e,by rw[lB];exact bF⟩ ag
 |pair p q adp adq=>
  intro a lA ab iV aO Bu;obtain⟨hr,bz,aj,cL⟩:=adp a lA ab iV (fun w hw=>aO w (by simp[T.occ,hw])) Bu;obtain⟨iF,a2,aC,dm⟩:=adq bz cL.sm.ru (by rw[cL.sm.keys];exact ab) (by rw[cL.sm.ph];exact iV) (fun w hw=>aO w (by simp[T.occ,hw])) (jT (ajk cL.sub) Bu);refine⟨max hr iF,a2,fun n aA=>by simp only[T.foldO];rw[aj n (by omega)];exact aC n (by omega),cL.sm.trans dm.sm,fun z bC=>dm.sub z (cL.sub z bC),fun aL=>?_,fun h=>dm.kept (cL.kept h),fun de=>?_⟩
  ·rcases dm.yes aL with h|⟨w,aZ,bB⟩
   ·rcases cL.yes h with h|⟨w,aZ,bB⟩
    ·exact .inl h
    ·exact .inr ⟨w,by simp[T.occ,aZ],bB⟩
   ·exact .inr ⟨w,by simp[T.occ,aZ],bB⟩
  ·have abu:bz.found=false:=by cases e:bz.found with
    |false=>rfl
    |true=>have:=dm.kept e;rw[de]at this;cases this
   obtain⟨dC,e6⟩:=cL.no abu;obtain⟨s1,s2⟩:=dm.no de;refine⟨fun w hw=>?_,fun r aJ dx u hu=>?_⟩
   ·simp only[T.occ,mf]at hw;rcases hw with hw|hw
    ·exact⟨(dC w hw).1,fun h=>dm.sub _ ((dC w hw).2 h)⟩
    ·exact s1 w hw
   ·by_cases h:lZ bz.seen r
    ·exact⟨(e6 r h dx u hu).1,fun cI=>dm.sub _ ((e6 r h dx u hu).2 cI)⟩
    ·exact s2 r aJ h u hu
 |_=>intro a lA ab iV aO Bu;exact⟨0,a,fun n _=>rfl,ic.refl lA,fun z bC=>bC,fun h=>.inl h,fun h=>h,fun _=>⟨fun w hw=>by simp[T.occ]at hw,fun r J U=>absurd J U⟩⟩
theorem Fu{ρ:Int→Int}{x:Int}{c:bq}{t:T}(lA:je c.up ρ)(gq:nD (ck c.up) c.ph)(aO:∀w,t.occ w=true→w∈ck c.up):
  ∃N a,(∀n,N≤n→oQ n x t c []=some a)∧ic ρ c a.c∧(a.found=true↔∃w,t.occ w=true∧mi (iD c.ph ρ) (ρ w) x):=by
 obtain⟨N,a,J,U⟩:=ah9 (x:=x) gq _ t ⟨c,[],false⟩ lA rfl rfl aO (eQ _);refine⟨N+1,a,fun n aA=>?_,U.sm,fun h=>?_,fun⟨w,hw,aJ⟩=>?_⟩
 ·obtain⟨n',rfl⟩:∃n',n=n'+1:=⟨n-1,by omega⟩;exact J n' (by omega)
 ·rcases U.yes h with h|h
  ·cases h
  ·exact h
 ·cases e:a.found with
  |true=>rfl
  |false=>
   obtain⟨aZ,bB⟩:=U.no e;have key:∀z,mi (iD c.ph ρ) z x→z≠x→((c.ph z).isSome=true→lZ a.seen z)→eI:=by
    have:∀z y,mi (iD c.ph ρ) z y→y=x→z≠x→((c.ph z).isSome=true→lZ a.seen z)→eI:=by
     intro z y aL;induction aL with
     |refl z=>intro h cp;exact absurd h cp
     | @step z b ch he _ bM=>intro ad cC iT;obtain⟨_,dD,w',kv,_,_⟩:=id he;have ag:=iT (by simp[kv]);obtain⟨g1,g2⟩:=bB z ag (by simp[lZ,cW]) b he;exact bM ad g1 g2
    exact fun z bC=>this z x bC rfl
   exact(key _ aJ (aZ w hw).1 (aZ w hw).2).elim
end Go.Pv
namespace Go.Pv
open Go
theorem Wg{E:Int→Int→Prop}{x:Int}{r:Int→Nat}{M:Nat}(h:∀z u,z≠x→E z u→r u<r z)(gM:∀u,E x u→r u<M)(aA:∀u,E x u→¬mi E u x):∃ev:Int→Nat,∀z u,E z u→ev u<ev z:=by
 classical
 refine⟨fun z=>if mi E z x then r z+M else r z,fun z u he=>?_⟩;show(if mi E u x then r u+M else r u)<(if mi E z x then r z+M else r z);by_cases bC:z=x
 ·subst bC;have J:=aA u he;have U:=gM u he;rw[if_neg J,if_pos (mi.refl z)];omega
 ·have J:=h z u bC he;by_cases hu:mi E u x
  ·rw[if_pos hu,if_pos (mi.step he hu)];omega
  ·rw[if_neg hu];split<;>omega
def mo(ph:Int→aW T)(ρ:Int→Int):Nat→Int→T
 |0,v=>.var (ρ v)
 |n+1,v=>match ph (ρ v)with
  |none=>.var (ρ v)
  |some t=>t.ap (mo ph ρ n)
section
variable {ph:Int→aW T} {ρ:Int→Int} {r:Int→Nat}
theorem YE(eN:∀v,ρ (ρ v)=ρ v):∀(n:Nat) (v:Int),mo ph ρ n v=mo ph ρ n (ρ v)
 |0,v=>by simp[mo,eN]
 |n+1,v=>by simp[mo,eN]
theorem O7(eN:∀v,ρ (ρ v)=ρ v)(aJ:∀z u,iD ph ρ z u→r u<r z):∀(n:Nat) (v:Int),r (ρ v)<n→mo ph ρ n v=mo ph ρ (n+1) v
 |0,_,h=>by omega
 |n+1,v,h=>by
  show(match ph (ρ v)with|none=>T.var (ρ v)|some t=>t.ap (mo ph ρ n))=(match ph (ρ v)with|none=>T.var (ρ v)|some t=>t.ap (mo ph ρ (n+1)));cases e:ph (ρ v)with
  |none=>rfl
  |some t=>refine sS fun w hw=>O7 eN aJ n w ?_;have:=aJ (ρ v) (ρ w) ⟨eN v,t,w,e,hw,rfl⟩;omega
theorem O6(eN:∀v,ρ (ρ v)=ρ v)(aJ:∀z u,iD ph ρ z u→r u<r z){n:Nat}{v:Int}(h:r (ρ v)<n):∀k,mo ph ρ (n+k) v=mo ph ρ n v
 |0=>rfl
 |k+1=>by rw[←O6 eN aJ h k];exact(O7 eN aJ (n+k) v (by omega)).symm
def gD(ph:Int→aW T)(ρ:Int→Int)(r:Int→Nat)(v:Int):T:=mo ph ρ (r (ρ v)+1) v
theorem yq(eN:∀v,ρ (ρ v)=ρ v)(v:Int):gD ph ρ r v=gD ph ρ r (ρ v):=by unfold gD;rw[YE eN,eN]
theorem AN{v:Int}(h:ph (ρ v)=none):gD ph ρ r v= .var (ρ v):=by simp[gD,mo,h]
theorem yr(eN:∀v,ρ (ρ v)=ρ v)(aJ:∀z u,iD ph ρ z u→r u<r z){v:Int}{t:T}(h:ph (ρ v)=some t):gD ph ρ r v=t.ap (gD ph ρ r):=by show mo ph ρ (r (ρ v)+1) v=_;simp only[mo,h];refine sS fun w hw=>?_;have J:=aJ (ρ v) (ρ w) ⟨eN v,t,w,h,hw,rfl⟩;have:=O6 eN aJ (n:=r (ρ w)+1) (v:=w) (by omega) (r (ρ v)-(r (ρ w)+1));rw[show r (ρ w)+1+(r (ρ v)-(r (ρ w)+1))=r (ρ v)from by omega]at this;exact this
theorem abr(eN:∀v,ρ (ρ v)=ρ v)(aJ:∀z u,iD ph ρ z u→r u<r z):jF ph ρ (gD ph ρ r):=⟨yq eN,fun x t ad h=>yr eN aJ (by rw[ad];exact h)⟩
theorem FQ{V:List Int}(gq:nD V ph){aN:Int→T}(h:jF ph ρ aN){z u:Int}(he:iD ph ρ z u):(aN u).size<(aN z).size:=by obtain⟨J,t,w,U,al,rfl⟩:=he;rw[h.2 z t J U,←h.1 w];exact(zk aN al).2 (gq z t U).1
theorem FR{V:List Int}(gq:nD V ph){aN:Int→T}(h:jF ph ρ aN){z u:Int}(he:mi (iD ph ρ) z u):(aN u).size≤(aN z).size:=by
 induction he with
 |refl=>exact eQ _
 |step J _ bM=>have:=FQ gq h J;omega
end
theorem WI(r:Int→Nat)(t:T):∃M,∀w,t.occ w=true→r w<M:=by
 induction t with
 |var n=>exact⟨r n+1,fun w hw=>by simp[T.occ]at hw;subst hw;omega⟩
 |pair a b dO dP=>
  obtain⟨V1,J⟩:=dO;obtain⟨V2,U⟩:=dP;refine⟨V1+V2,fun w hw=>?_⟩;simp only[T.occ,mf]at hw;rcases hw with hw|hw
  ·have:=J w hw;omega
  ·have:=U w hw;omega
 |_=>exact⟨0,fun w hw=>by simp[T.occ]at hw⟩
theorem Ct{ph:Int→aW T}{ρ:Int→Int}(eN:∀v,ρ (ρ v)=ρ v){x:Int}{r:Int→Nat}(h:∀z u,z≠x→iD ph ρ z u→r u<r z)(aA:∀u,iD ph ρ x u→¬mi (iD ph ρ) u x):∃aN,jF ph ρ aN:=by
 have gM:∃M,∀u,iD ph ρ x u→r u<M:=by
  cases e:ph x with
  |none=>exact⟨0,fun u ⟨_,t,w,J,_⟩=>by rw[e]at J;cases J⟩
  |some t=>obtain⟨M,gM⟩:=WI (fun w=>r (ρ w)) t;refine⟨M,fun u ⟨_,dD,w,J,U,al⟩=>?_⟩;rw[e]at J;cases J;subst al;exact gM w U
 obtain⟨M,gM⟩:=gM;obtain⟨ev,dx⟩:=Wg h gM aA;exact⟨_,abr eN dx⟩
structure ln (c:bq) (ρ:Int→Int):Prop where
 ru:je c.up ρ
 sh:nD (ck c.up) c.ph
 sat:∃aN,jF c.ph ρ aN
theorem ln.sm{c ch:bq}{ρ:Int→Int}(h:ln c ρ)(k:ic ρ c ch):ln ch ρ:=⟨k.ru,by rw[k.keys,k.ph];exact h.sh,by rw[k.ph];exact h.sat⟩
def h1(c:bq)(ρ:Int→Int):Nat:=((ck c.up).filter fun v=>decide (ρ v=v)).length+((ck c.up).filter fun v=>decide (ρ v=v)&& !(c.ph v).isSome).length
theorem vR{c ch:bq}{ρ:Int→Int}(k:ic ρ c ch):h1 ch ρ=h1 c ρ:=by unfold h1;rw[k.keys,k.ph]
structure iE (c:bq) (ρ:Int→Int) (p:(Int→T)→Prop) (o:Bool×bq):Prop where
 keys:ck o.2.up=ck c.up
 rest:o.2.color=c.color∧o.2.size=c.size∧o.2.full=c.full
 yes:o.1=true→∃ρ',ln o.2 ρ'∧(∀aN,jF o.2.ph ρ' aN↔jF c.ph ρ aN∧p aN)∧((ρ'=ρ∧o.2.ph=c.ph)∨h1 o.2 ρ'<h1 c ρ)
 no:o.1=false→∀aN,jF c.ph ρ aN→¬p aN
theorem ic.rest{ρ:Int→Int}{c ch:bq}(h:ic ρ c ch):ch.color=c.color∧ch.size=c.size∧ch.full=c.full:=by rw[h.eq];exact⟨rfl,rfl,rfl⟩
theorem iE.sm{c ch:bq}{ρ:Int→Int}{p:(Int→T)→Prop}{o:Bool×bq}(k:ic ρ c ch)(h:iE ch ρ p o):iE c ρ p o:=⟨h.keys.trans k.keys,by rw[h.rest.1,h.rest.2.1,h.rest.2.2];exact k.rest,fun e=>by rw[←vR k,←k.ph];exact h.yes e,by rw[←k.ph];exact h.no⟩
theorem iE.congr{c:bq}{ρ:Int→Int}{p q:(Int→T)→Prop}{o:Bool×bq}(j4:∀aN,jF c.ph ρ aN→(p aN↔q aN))(h:iE c ρ p o):iE c ρ q o:=⟨h.keys,h.rest,fun e=>by obtain⟨ρ',J,U,al⟩:=h.yes e;exact⟨ρ',J,fun aN=>(U aN).trans (and_congr_right fun ag=>j4 aN ag),al⟩,fun e aN ag bp=>h.no e aN ag ((j4 aN ag).2 bp)⟩
theorem vq(c:bq)(x:Int)(t:T)(z:Int):(c.know x t).ph z=if z=x then some t else c.ph z:=by
 simp only[bq.ph,bq.know,bq.shd,bq.shp,mO];by_cases h:z=x
 ·simp[h]
 ·simp only[if_neg h];exact ite_congr rfl (fun _=>rfl) fun _=>rfl
theorem RZ{c:bq}{ρ:Int→Int}(hi:ln c ρ){x:Int}(ad:ρ x=x)(ab:x∈ck c.up)(iV:c.ph x=none){t:T}(aO:t.kind≠1)(aK:∀w,t.occ w=true→w∈ck c.up):
  ∃N o,(∀n,N≤n→tC n x t c=some o)∧iE c ρ (fun aN=>aN x=t.ap aN) o:=by
 have gq:nD (ck (c.know x t).up) (c.know x t).ph:=by
  intro z u bC;rw[vq]at bC;split at bC
  ·rename_i e;cases bC;subst e;exact⟨aO,aK,ab⟩
  ·exact hi.sh z u bC
 have kH:∀aN,jF (c.know x t).ph ρ aN↔jF c.ph ρ aN∧aN x=t.ap aN:=by
  intro aN;constructor
  ·rintro⟨J,U⟩;refine⟨⟨J,fun z u bC hu=>U z u bC ?_⟩,U x t ad (by rw[vq];simp)⟩;rw[vq];split
   ·rename_i e;subst e;rw[iV]at hu;cases hu
   ·exact hu
  ·rintro⟨⟨J,U⟩,al⟩;refine⟨J,fun z u bC hu=>?_⟩;rw[vq]at hu;split at hu
   ·rename_i e;subst e;cases hu;exact al
   ·exact U z u bC hu
 obtain⟨N,a,J,U,al⟩:=Fu (x:=x) (c:=c.know x t) (t:=t) hi.ru gq aK;refine⟨N,(!a.found,a.c),fun n aA=>by simp[tC,J n aA],U.keys,U.rest,fun aI=>?_,fun aI aN ag he=>?_⟩
 ·simp only[Bool.not_eq_true']at aI;have acI:∀u,iD (c.know x t).ph ρ x u→¬mi (iD (c.know x t).ph ρ) u x:=by rintro u ⟨_,dD,w,aZ,bB,rfl⟩ aJ;rw[vq,if_pos rfl]at aZ;cases aZ;have:=al.2 ⟨w,bB,aJ⟩;rw[aI]at this;cases this
  obtain⟨kx,tu⟩:=hi.sat
  have acY:=Ct (ph:=(c.know x t).ph) (ρ:=ρ) hi.ru.idem (x:=x) (r:=fun z=>(kx z).size) (fun z u bC he=>by refine FQ hi.sh tu ?_;obtain⟨aj,dD,w,aC,bg⟩:=he;rw[vq,if_neg bC]at aC;exact⟨aj,dD,w,aC,bg⟩) acI
  refine⟨ρ,⟨U.ru,?_,?_⟩,fun aN=>?_,.inr ?_⟩
  ·simp only[U.keys,U.ph];exact gq
  ·simp only[U.ph];exact acY
  ·simp only[U.ph];exact kH aN
  ·simp only[vR U];unfold h1;have aj:ck (c.know x t).up=ck c.up:=rfl;rw[aj];have:=DF (V:=ck c.up) (v:=x) (p:=fun v=>decide (ρ v=v)&& !(c.ph v).isSome) (q:=fun v=>decide (ρ v=v)&& !((c.know x t).ph v).isSome) (fun z _ bC=>by
    rw[vq]at bC;split at bC
    ·simp at bC
    ·exact bC) ab (by simp[ad,iV]) (by simp[vq])
   omega
 ·simp only[Bool.not_eq_false']at aI;obtain⟨w,aZ,bB⟩:=al.1 aI;have fX:=(kH aN).2 ⟨ag,he⟩;have:=FR gq fX bB;have a6:=(zk aN aZ).2 aO;rw[←he]at a6;rw[←ag.1 w]at this;omega
def iH(ρ:Int→Int)(x y:Int)(v:Int):Int:=if ρ v=y then x else ρ v
section
variable {c:bq} {ρ:Int→Int} {x y:Int}
theorem pg(ad:ρ x=x)(aL:ρ y=y)(hC:x≠y){z:Int}:iH ρ x y z=z↔ρ z=z∧z≠y:=by
 unfold iH;split
 ·rename_i e;constructor
  ·intro h;subst h;rw[ad]at e;exact absurd e hC
  ·rintro⟨J,U⟩;rw[J]at e;exact absurd e U
 ·rename_i e;constructor
  ·intro h;exact⟨h,fun aC=>e (by rw[aC,aL])⟩
  ·exact fun h=>h.1
theorem je.join(h:je c.up ρ)(ad:ρ x=x)(aL:ρ y=y)(hC:x<y)(BI:x∈ck c.up)(tD:y∈ck c.up):je (c.join x y).up (iH ρ x y):=by
 have ab:ck (c.join x y).up=ck c.up:=BG tD;refine⟨fun v u aK=>?_,fun v aK=>?_⟩
 ·rw[ab];have lC:cW v (eH y x c.up)=some u:=aK;rw[mO]at lC;by_cases e:v=y
  ·subst e;rw[if_pos rfl]at lC;cases lC;have bs:=(h.mem BI).2;rw[ad]at bs;refine⟨⟨bs,by omega,BI⟩,?_,⟨fun e=>?_,fun e=>by omega⟩⟩
   ·unfold iH;rw[ad,aL,if_pos rfl,if_neg (by omega)]
   ·have:=((pg ad aL (by omega)).1 e).2;exact absurd rfl this
  ·rw[if_neg e]at lC;obtain⟨bz,a2,a3⟩:=h.up v u lC;refine⟨bz,by unfold iH;rw[a2],?_⟩;rw[pg ad aL (by omega),a3];exact⟨fun h=>h.1,fun h=>⟨h,e⟩⟩
 ·rw[ab]at aK;have:=h.no v aK;unfold iH;rw[this,if_neg fun e=>aK (by rw[e];exact tD)]
theorem aiM{ph:Int→aW T}(ad:ρ x=x)(aL:ρ y=y)(hC:x≠y)(aN:Int→T):(jF ph (iH ρ x y) aN∧∀t,ph y=some t→aN x=t.ap aN)↔(jF ph ρ aN∧aN x=aN y):=by
 constructor
 ·rintro⟨⟨J,U⟩,al⟩;have IS:aN y=aN x:=by have:=J y;simpa[iH,aL]using this
  refine⟨⟨fun v=>?_,fun z t bC aO=>?_⟩,IS.symm⟩
  ·have:=J v;unfold iH at this;split at this
   ·rename_i e;rw[e,this,IS]
   ·exact this
  ·by_cases e:z=y
   ·subst e;rw[IS];exact al t aO
   ·exact U z t ((pg ad aL hC).2 ⟨bC,e⟩) aO
 ·rintro⟨⟨J,U⟩,al⟩;refine⟨⟨fun v=>?_,fun z t bC aO=>U z t ((pg ad aL hC).1 bC).1 aO⟩,fun t aO=>by rw[al];exact U y t aL aO⟩;unfold iH;split
  ·rename_i e;rw[J v,e,al]
  ·exact J v
theorem ah8{V:List Int}{ph:Int→aW T}(gq:nD V ph)(ad:ρ x=x)(aL:ρ y=y)(hC:x≠y){aN:Int→T}(h:jF ph ρ aN){z u:Int}(bC:z≠x)(he:iD ph (iH ρ x y) z u):(if u=x then 0 else(aN u).size)<(if z=x then 0 else(aN z).size):=by
 obtain⟨J,t,w,U,al,rfl⟩:=he;have aJ:=(pg ad aL hC).1 J;rw[if_neg bC];split
 ·exact T.size_pos _
 ·rename_i cC;have:iH ρ x y w=ρ w:=by
   unfold iH at cC⊢;split
   ·rename_i e;rw[if_pos e]at cC;exact absurd rfl cC
   ·rfl
  rw[this];exact FQ gq h ⟨aJ.1,t,w,U,al,rfl⟩
theorem VY(ad:ρ x=x)(aL:ρ y=y)(hC:x≠y)(tD:y∈ck c.up):h1 (c.join x y) (iH ρ x y)<h1 c ρ:=by have ab:ck (c.join x y).up=ck c.up:=BG tD;have bF:(c.join x y).ph=c.ph:=rfl;unfold h1;rw[ab,bF];have J:=DF (V:=ck c.up) (v:=y) (p:=fun v=>decide (ρ v=v)) (q:=fun v=>decide (iH ρ x y v=v)) (fun z _ bC=>by simp only[fx]at bC⊢;exact((pg ad aL hC).1 bC).1) tD (by simp[aL]) (by simp only[hx];exact fun h=>((pg ad aL hC).1 h).2 rfl);have U:=DE (V:=ck c.up) (p:=fun v=>decide (ρ v=v)&& !(c.ph v).isSome) (q:=fun v=>decide (iH ρ x y v=v)&& !(c.ph v).isSome) (fun z _ bC=>by simp only[cA,fx]at bC⊢;exact⟨((pg ad aL hC).1 bC.1).1,bC.2⟩);omega
end
theorem zt{c:bq}{x:Int}(h:c.shd x=false):c.ph x=none:=by simp[bq.ph,h]
theorem zu{c:bq}{x:Int}(h:¬c.shd x=false):c.ph x=some (c.shp x):=by simp[bq.ph];simpa using h
theorem OZ{c:bq}{ρ:Int→Int}(hi:ln c ρ){x y:Int}(ad:ρ x=x)(aL:ρ y=y)(hC:x<y)(BI:x∈ck c.up)(tD:y∈ck c.up)
  (rec:∀(bE:bq) (kP:Int→Int),ln bE kP→ck bE.up=ck c.up→h1 bE kP<h1 c ρ→∀a b:T,(∀w,a.occ w=true→w∈ck c.up)→(∀w,b.occ w=true→w∈ck c.up)→∃N o,(∀n,N≤n→gk n a b bE=some o)∧iE bE kP (fun aN=>a.ap aN=b.ap aN) o):
  ∃N o,(∀n,N≤n→qy (gk n) n x y (c.join x y)=some o)∧iE c ρ (fun aN=>aN x=aN y) o:=by
 have cC:x≠y:=by omega
 have ab:ck (c.join x y).up=ck c.up:=BG tD;have bF:(c.join x y).ph=c.ph:=rfl;have lA:=hi.ru.join ad aL hC BI tD;have c4:=VY (c:=c) ad aL cC tD;have gq:nD (ck (c.join x y).up) (c.join x y).ph:=by rw[ab,bF];exact hi.sh
 obtain⟨kx,tu⟩:=hi.sat
 have Ee:∀z u,z≠x→iD c.ph (iH ρ x y) z u→(fun z=>if z=x then 0 else(kx z).size) u<(fun z=>if z=x then 0 else(kx z).size) z:=fun z u bC he=>ah8 hi.sh ad aL cC tu bC he;have kH:=fun aN=>aiM (ph:=c.ph) ad aL cC aN;have QY:∀{ch:bq},ic (iH ρ x y) (c.join x y) ch→(∃aN,jF c.ph (iH ρ x y) aN)→c.ph y=none→iE c ρ (fun aN=>aN x=aN y) (true,ch):=by intro ch k ag aA;refine⟨k.keys.trans ab,k.rest,fun _=>⟨iH ρ x y,⟨k.ru,by simp only[k.keys,k.ph];exact gq,by simp only[k.ph];exact ag⟩,fun aN=>?_,.inr (by simp only[vR k];exact c4)⟩,fun e=>by cases e⟩;simp only[k.ph,bF];rw[←kH aN];exact⟨fun h=>⟨h,fun t aO=>by rw[aA]at aO;cases aO⟩,fun h=>h.1⟩
 by_cases J:(c.join x y).shd y=false
 ·have QN:c.ph y=none:=zt J;by_cases U:(c.join x y).shd x=false
  ·have yL:c.ph x=none:=zt U;refine⟨0,(true,c.join x y),fun n _=>by simp only[qy,if_pos J,if_pos U],QY (ic.refl lA) ?_ QN⟩;exact Ct lA.idem (x:=x) Ee fun u ⟨_,t,w,q,_⟩=>by rw[yL]at q;cases q
  ·have nh:c.ph x=some ((c.join x y).shp x):=zu U;obtain⟨N,a,aj,aC,bg⟩:=Fu (x:=x) (c:=c.join x y) (t:=(c.join x y).shp x) lA gq (by rw[ab];exact(hi.sh _ _ nh).2.1);refine⟨N,(!a.found,a.c),fun n aA=>by simp only[qy,if_pos J,if_neg U,aj n aA,ny],?_⟩;cases aI:a.found with
   |false=>refine QY aC (Ct lA.idem (x:=x) Ee fun u ⟨_,t,w,aZ,bB,bQ⟩ aJ=>?_) QN;rw[nh]at aZ;cases aZ;subst bQ;have:=bg.2 ⟨w,bB,aJ⟩;rw[aI]at this;cases this
   |true=>refine⟨aC.keys.trans ab,aC.rest,(fun e=>by cases e),fun _ aN ag he=>?_⟩;obtain⟨w,aZ,bB⟩:=bg.1 aI;have fX:=((kH aN).2 ⟨ag,he⟩).1;have al:=FR hi.sh fX bB;have a6:=(zk aN aZ).2 (hi.sh _ _ nh).1;rw[←fX.2 x _ ((pg ad aL cC).2 ⟨ad,cC⟩) nh]at a6;rw[←fX.1 w]at al;omega
 ·have p7:c.ph y=some ((c.join x y).shp y):=zu J;by_cases U:(c.join x y).shd x=false
  ·have yL:c.ph x=none:=zt U;have lx:ln (c.join x y) (iH ρ x y):=⟨lA,gq,Ct lA.idem (x:=x) Ee fun u ⟨_,t,w,q,_⟩=>by rw[bF,yL]at q;cases q⟩;obtain⟨N,o,aj,aC⟩:=RZ lx (x:=x) ((pg ad aL cC).2 ⟨ad,cC⟩) (by rw[ab];exact BI) yL (t:=(c.join x y).shp y) (hi.sh _ _ p7).1 (by rw[ab];exact(hi.sh _ _ p7).2.1);refine⟨N,o,fun n aA=>by simp only[qy,if_neg J,if_pos U,aj n aA],aC.keys.trans ab,aC.rest,fun aI=>?_,fun aI aN ag he=>?_⟩
   ·obtain⟨ρ',g1,g2,g3⟩:=aC.yes aI;refine⟨ρ',g1,fun aN=>?_,.inr ?_⟩
    ·rw[g2 aN,←kH aN];refine and_congr_right fun _=>⟨fun h t aO=>by rw[p7]at aO;cases aO;exact h,fun h=>h _ p7⟩
    ·rcases g3 with⟨rfl,g3⟩|g3
     ·have:h1 o.2 (iH ρ x y)=h1 (c.join x y) (iH ρ x y):=by unfold h1;rw[aC.keys,g3]
      omega
     ·omega
   ·obtain⟨s1,s2⟩:=(kH aN).2 ⟨ag,he⟩;exact aC.no aI aN s1 (s2 _ p7)
  ·have nh:c.ph x=some ((c.join x y).shp x):=zu U;obtain⟨hr,a,aj,aC,bg⟩:=Fu (x:=x) (c:=c.join x y) (t:=(c.join x y).shp y) lA gq (by rw[ab];exact(hi.sh _ _ p7).2.1);cases aI:a.found with
   |true=>refine⟨hr,(false,a.c),fun n aA=>by simp only[qy,if_neg J,if_neg U,aj n aA,kA,aI,if_true],aC.keys.trans ab,aC.rest,(fun e=>by cases e),fun _ aN ag he=>?_⟩;obtain⟨w,aZ,bB⟩:=bg.1 aI;obtain⟨fX,oJ⟩:=(kH aN).2 ⟨ag,he⟩;have al:=FR hi.sh fX bB;have a6:=(zk aN aZ).2 (hi.sh _ _ p7).1;rw[←oJ _ p7]at a6;rw[←fX.1 w]at al;omega
   |false=>
    have Q1:a.c.shp x=(c.join x y).shp x:=aC.shp x;obtain⟨iF,b,f1,f2,f3⟩:=Fu (x:=x) (c:=a.c) (t:=(c.join x y).shp x) aC.ru (by rw[aC.keys,aC.ph];exact gq) (by rw[aC.keys,ab];exact(hi.sh _ _ nh).2.1);have eY:=aC.trans f2;cases a1:b.found with
    |true=>refine⟨max hr iF,(false,b.c),fun n aA=>by simp only[qy,if_neg J,if_neg U,aj n (by omega),kA,aI,Q1,f1 n (by omega),a1,if_true,gI,if_false],eY.keys.trans ab,eY.rest,(fun e=>by cases e),fun _ aN ag he=>?_⟩;obtain⟨w,aZ,bB⟩:=f3.1 a1;obtain⟨fX,_⟩:=(kH aN).2 ⟨ag,he⟩;rw[aC.ph]at bB;have al:=FR hi.sh fX bB;have a6:=(zk aN aZ).2 (hi.sh _ _ nh).1;rw[←fX.2 x _ ((pg ad aL cC).2 ⟨ad,cC⟩) nh]at a6;rw[←fX.1 w]at al;omega
    |false=>
     have yE:ln b.c (iH ρ x y):=by refine⟨eY.ru,by rw[eY.keys,eY.ph];exact gq,?_⟩;rw[eY.ph];refine Ct lA.idem (x:=x) Ee fun u ⟨_,t,w,aZ,bB,bQ⟩ aJ=>?_;rw[bF,nh]at aZ;cases aZ;subst bQ;have:=f3.2 ⟨w,bB,by rw[aC.ph];exact aJ⟩;rw[a1]at this;cases this
     obtain⟨xX,o,g1,g2⟩:=rec b.c (iH ρ x y) yE (eY.keys.trans ab) (by rw[vR eY];exact c4) ((c.join x y).shp x) ((c.join x y).shp y) (hi.sh _ _ nh).2.1 (hi.sh _ _ p7).2.1;refine⟨max (max hr iF) xX,o,fun n aA=>?_,g2.keys.trans (eY.keys.trans ab),?_,fun cI=>?_,fun cI aN ag he=>?_⟩
     ·simp only[qy,if_neg J,if_neg U,aj n (by omega),kA,aI,Q1,f1 n (by omega),a1,gI,if_false,eY.shp];exact g1 n (by omega)
     ·rw[g2.rest.1,g2.rest.2.1,g2.rest.2.2];exact eY.rest
     ·obtain⟨ρ',aZ,bB,bQ⟩:=g2.yes cI;refine⟨ρ',aZ,fun aN=>?_,.inr ?_⟩
      ·rw[bB aN,eY.ph,bF,←kH aN];refine and_congr_right fun h=>?_;have:=h.2 x _ ((pg ad aL cC).2 ⟨ad,cC⟩) nh;rw[←this];exact⟨fun h t aO=>by rw[p7]at aO;cases aO;exact h,fun h=>h _ p7⟩
      ·have:h1 b.c (iH ρ x y)<h1 c ρ:=by rw[vR eY];exact c4
       rcases bQ with⟨rfl,bQ⟩|bQ
       ·have:h1 o.2 (iH ρ x y)=h1 b.c (iH ρ x y):=by unfold h1;rw[g2.keys,bQ]
        omega
       ·omega
     ·obtain⟨s1,s2⟩:=(kH aN).2 ⟨ag,he⟩;refine g2.no cI aN (by rw[eY.ph];exact s1) ?_;have:=s1.2 x _ ((pg ad aL cC).2 ⟨ad,cC⟩) nh;rw[←this];exact s2 _ p7
def sY:T→T→Nat
 | .var _,_=>1
 |_,.var _=>2
 |_,_=>0
theorem XL(K:Nat):∀(m:Nat) (c:bq) (ρ:Int→Int) (a b:T) (kx:Int→T),ln c ρ→jF c.ph ρ kx→(∀w,a.occ w=true→w∈ck c.up)→(∀w,b.occ w=true→w∈ck c.up)→h1 c ρ=K→((a.ap kx).size+(b.ap kx).size)*3+sY a b=m→
  ∃N o,(∀n,N≤n→gk n a b c=some o)∧iE c ρ (fun aN=>a.ap aN=b.ap aN) o:=by
 induction K using Nat.strongRecOn with
 |ind K ado=>
 have Ra:∀(bE:bq) (kP:Int→Int),ln bE kP→h1 bE kP<K→∀a b:T,(∀w,a.occ w=true→w∈ck bE.up)→(∀w,b.occ w=true→w∈ck bE.up)→∃N o,(∀n,N≤n→gk n a b bE=some o)∧iE bE kP (fun aN=>a.ap aN=b.ap aN) o:=by
  intro bE kP J U a b bD ae;obtain⟨aN,hb⟩:=J.sat
  exact ado _ U _ bE kP a b aN J hb bD ae rfl rfl
 intro m;induction m using Nat.strongRecOn with
 |ind m yZ=>
 intro c ρ a b kx hi tu bD ae c4 hm;have acq:∀{a b:T},(∀n,gk (n+1) a b c=some (decide (a=b),c))→(∀aN,a.ap aN=a)→(∀aN,b.ap aN=b)→∃N o,(∀n,N≤n→gk n a b c=some o)∧iE c ρ (fun aN=>a.ap aN=b.ap aN) o:=by
  intro a b J U al;refine⟨1,(decide (a=b),c),fun n aA=>?_,rfl,⟨rfl,rfl,rfl⟩,fun h=>?_,fun h aN _ he=>?_⟩
  ·obtain⟨n',rfl⟩:∃n',n=n'+1:=⟨n-1,by omega⟩;exact J n'
  ·simp only[fx]at h;subst h;exact⟨ρ,hi,fun aN=>⟨fun h=>⟨h,rfl⟩,fun h=>h.1⟩,.inl ⟨rfl,rfl⟩⟩
  ·simp only[hx]at h;rw[U,al]at he;exact h he
 have Qe:∀{a b:T},(∀n,gk (n+1) a b c=some (decide (a=b),c))→(∀aN,a.ap aN≠b.ap aN)→a≠b→∃N o,(∀n,N≤n→gk n a b c=some o)∧iE c ρ (fun aN=>a.ap aN=b.ap aN) o:=by intro a b J U al;refine⟨1,(false,c),fun n aA=>?_,rfl,⟨rfl,rfl,rfl⟩,(fun h=>by cases h),fun _ aN _ he=>U aN he⟩;obtain⟨n',rfl⟩:∃n',n=n'+1:=⟨n-1,by omega⟩;rw[J n',oe al]
 have u2:∀(i:Int) (b:T),b.kind≠1→(∀n,gk (n+1) (.var i) b c=(rt c i).bind fun p=>if p.2.shd p.1=false then tC n p.1 b p.2 else gk n (p.2.shp p.1) b p.2)→i∈ck c.up→(∀w,b.occ w=true→w∈ck c.up)→((kx i).size+(b.ap kx).size)*3<m→∃N o,(∀n,N≤n→gk n (.var i) b c=some o)∧iE c ρ (fun aN=>aN i=b.ap aN) o:=by
  intro i b nL Qh vb ae bu;obtain⟨bE,aj,a8⟩:=sr hi.ru vb;have lx:=hi.sm a8;by_cases ag:bE.shd (ρ i)=false
  ·obtain⟨N,o,aC,dm⟩:=RZ lx (x:=ρ i) (hi.ru.idem i) (by rw[a8.keys];exact(hi.ru.mem vb).1) (zt ag) nL (by rw[a8.keys];exact ae);refine⟨N+1,o,fun n aA=>?_,iE.sm a8 (iE.congr (fun aN h=>?_) dm)⟩
   ·obtain⟨n',rfl⟩:∃n',n=n'+1:=⟨n-1,by omega⟩;rw[Qh,aj];simp only[kA,if_pos ag];exact aC n' (by omega)
   ·rw[←h.1 i]
  ·have nh:bE.ph (ρ i)=some (bE.shp (ρ i)):=zu ag;have kH:∀aN,jF bE.ph ρ aN→aN i=(bE.shp (ρ i)).ap aN:=fun aN h=>by rw[h.1 i];exact h.2 _ _ (hi.ru.idem i) nh
   have ha:=(lx.sh _ _ nh).1;have ab1:sY (bE.shp (ρ i)) b=0:=by cases e:bE.shp (ρ i)<;>cases b<;>simp_all[sY,T.kind]
   have Q8:jF bE.ph ρ kx:=by rw[a8.ph];exact tu
   obtain⟨N,o,aC,dm⟩:=yZ (((bE.shp (ρ i)).ap kx).size*3+(b.ap kx).size*3) (by rw[←kH kx Q8];omega) bE ρ (bE.shp (ρ i)) b kx lx Q8 (lx.sh _ _ nh).2.1 (by rw[a8.keys];exact ae) (by rw[vR a8];exact c4) (by rw[ab1];omega);refine⟨N+1,o,fun n aA=>?_,iE.sm a8 (iE.congr (fun aN h=>?_) dm)⟩
   ·obtain⟨n',rfl⟩:∃n',n=n'+1:=⟨n-1,by omega⟩;rw[Qh,aj];simp only[kA,if_neg ag];exact aC n' (by omega)
   ·rw[kH aN h]
 have Bw:∀(i j:Int),i∈ck c.up→j∈ck c.up→∃N o,(∀n,N≤n→gk n (.var i) (.var j) c=some o)∧iE c ρ (fun aN=>aN i=aN j) o:=by
  intro i j vb EC;obtain⟨bE,aj,a8⟩:=sr hi.ru vb;obtain⟨cc,aC,bU⟩:=sr a8.ru (by rw[a8.keys];exact EC:j∈ck bE.up);have sa:=a8.trans bU;have ho:=hi.sm sa;have uQ:ρ i∈ck cc.up:=by rw[sa.keys];exact(hi.ru.mem vb).1
  have Qv:ρ j∈ck cc.up:=by rw[sa.keys];exact(hi.ru.mem EC).1
  have uW:∀(bE:bq) (kP:Int→Int),ln bE kP→ck bE.up=ck cc.up→h1 bE kP<h1 cc ρ→∀a b:T,(∀w,a.occ w=true→w∈ck cc.up)→(∀w,b.occ w=true→w∈ck cc.up)→∃N o,(∀n,N≤n→gk n a b bE=some o)∧iE bE kP (fun aN=>a.ap aN=b.ap aN) o:=fun c8 ρ3 J U al a b bD ae=>Ra c8 ρ3 J (by rw[vR sa,c4]at al;exact al) a b (by rw[U];exact bD) (by rw[U];exact ae);rcases Int.lt_trichotomy (ρ i) (ρ j)with h|h|h
  ·obtain⟨N,o,bg,iy⟩:=OZ ho (hi.ru.idem i) (hi.ru.idem j) h uQ Qv uW;refine⟨N+1,o,fun n aA=>?_,iE.sm sa (iE.congr (fun aN h=>?_) iy)⟩
   ·obtain⟨n',rfl⟩:∃n',n=n'+1:=⟨n-1,by omega⟩;simp only[gk,aj,aC,kA];rw[if_neg (by omega),if_neg (by omega)];exact bg n' (by omega)
   ·rw[h.1 i,h.1 j]
  ·refine⟨1,(true,cc),fun n aA=>?_,sa.keys,sa.rest,fun _=>⟨ρ,ho,fun aN=>?_,.inl ⟨rfl,sa.ph⟩⟩,fun e=>by cases e⟩
   ·obtain⟨n',rfl⟩:∃n',n=n'+1:=⟨n-1,by omega⟩;simp only[gk,aj,aC,kA,if_pos h]
   ·simp only[sa.ph];exact⟨fun ag=>⟨ag,by rw[ag.1 i,ag.1 j,h]⟩,fun ag=>ag.1⟩
  ·obtain⟨N,o,bg,iy⟩:=OZ ho (hi.ru.idem j) (hi.ru.idem i) h Qv uQ uW;refine⟨N+1,o,fun n aA=>?_,iE.sm sa (iE.congr (fun aN h=>?_) iy)⟩
   ·obtain⟨n',rfl⟩:∃n',n=n'+1:=⟨n-1,by omega⟩;simp only[gk,aj,aC,kA];rw[if_neg (by omega),if_pos h];exact bg n' (by omega)
   ·rw[h.1 i,h.1 j];exact⟨Eq.symm,Eq.symm⟩
 have yS:∀(a:T) (j:Int),a.kind≠1→(∀n,gk (n+1) a (.var j) c=gk n (.var j) a c)→(∀n,gk (n+1) (.var j) a c=(rt c j).bind fun p=>if p.2.shd p.1=false then tC n p.1 a p.2 else gk n (p.2.shp p.1) a p.2)→j∈ck c.up→(∀w,a.occ w=true→w∈ck c.up)→((kx j).size+(a.ap kx).size)*3<m→∃N o,(∀n,N≤n→gk n a (.var j) c=some o)∧iE c ρ (fun aN=>a.ap aN=aN j) o:=by intro a j J U al EC bD bu;obtain⟨N,o,aj,cL⟩:=u2 j a J al EC bD bu;refine⟨N+1,o,fun n aA=>?_,iE.congr (fun aN _=>⟨Eq.symm,Eq.symm⟩) cL⟩;obtain⟨n',rfl⟩:∃n',n=n'+1:=⟨n-1,by omega⟩;rw[U];exact aj n' (by omega)
 cases a with
 |var i=>
  have vb:i∈ck c.up:=bD i (by simp[T.occ]);cases b with
  |var j=>exact Bw i j vb (ae j (by simp[T.occ]))
  |_=>exact u2 i _ (by simp[T.kind]) (fun n=>rfl) vb ae (by simp only[T.ap,sY]at hm⊢;omega)
 |pair bz a2=>
  cases b with
  |var j=>exact yS _ j (by simp[T.kind]) (fun n=>rfl) (fun n=>rfl) (ae j (by simp[T.occ])) bD (by simp only[T.ap,sY]at hm⊢;omega)
  |pair b9 bZ=>
   have rX:∀p q:T,sY p q≤2:=fun p q=>by cases p<;>cases q<;>simp[sY]
   have kE:∀w,bz.occ w=true→w∈ck c.up:=fun w hw=>bD w (by simp[T.occ,hw]);have o7:∀w,a2.occ w=true→w∈ck c.up:=fun w hw=>bD w (by simp[T.occ,hw]);have kY:∀w,b9.occ w=true→w∈ck c.up:=fun w hw=>ae w (by simp[T.occ,hw]);have oH:∀w,bZ.occ w=true→w∈ck c.up:=fun w hw=>ae w (by simp[T.occ,hw]);simp only[T.ap,T.size,sY]at hm;have f1:=rX bz b9;have f2:=rX a2 bZ;obtain⟨hr,gF,aj,cL⟩:=yZ _ (by rw[←hm];omega) c ρ bz b9 kx hi tu kE kY c4 rfl;obtain⟨ae2,bE⟩:=gF;cases ae2 with
   |false=>refine⟨hr+1,(false,bE),fun n aA=>?_,cL.keys,cL.rest,(fun e=>by cases e),fun _ aN ag he=>cL.no rfl aN ag (by simp only[T.ap,T.pair.injEq]at he;exact he.1)⟩;obtain⟨n',rfl⟩:∃n',n=n'+1:=⟨n-1,by omega⟩;simp only[gk,aj n' (by omega),kA,gI,if_false]
   |true=>
    obtain⟨kP,aZ,bB,bQ⟩:=cL.yes rfl;simp only at aZ bB bQ;have wK:ck bE.up=ck c.up:=cL.keys;have Bo:∃iF gy,(∀n,iF≤n→gk n a2 bZ bE=some gy)∧iE bE kP (fun aN=>a2.ap aN=bZ.ap aN) gy:=by
     rcases bQ with⟨rfl,bQ⟩|bQ
     ·exact yZ _ (by rw[←hm];omega) bE kP a2 bZ kx aZ (by rw[bQ];exact tu) (by rw[wK];exact o7) (by rw[wK];exact oH) (by unfold h1;rw[wK,bQ];exact c4) rfl
     ·exact Ra bE kP aZ (by omega) a2 bZ (by rw[wK];exact o7) (by rw[wK];exact oH)
    obtain⟨iF,gy,aC,dm⟩:=Bo;refine⟨max hr iF+1,gy,fun n aA=>?_,dm.keys.trans wK,?_,fun aI=>?_,fun aI aN ag he=>?_⟩
    ·obtain⟨n',rfl⟩:∃n',n=n'+1:=⟨n-1,by omega⟩;simp only[gk,aj n' (by omega),kA,if_true];exact aC n' (by omega)
    ·rw[dm.rest.1,dm.rest.2.1,dm.rest.2.2];exact cL.rest
    ·obtain⟨ρ2,s1,s2,s3⟩:=dm.yes aI;refine⟨ρ2,s1,fun aN=>?_,?_⟩
     ·rw[s2 aN,bB aN];simp only[T.ap,T.pair.injEq,and_assoc]
     ·rcases bQ with⟨rfl,bQ⟩|bQ
      ·rcases s3 with⟨rfl,s3⟩|s3
       ·exact .inl ⟨rfl,s3.trans bQ⟩
       ·have:h1 bE kP=h1 c kP:=by unfold h1;rw[wK,bQ]
        exact .inr (by omega)
      ·rcases s3 with⟨rfl,s3⟩|s3
       ·have:h1 gy.2 ρ2=h1 bE ρ2:=by unfold h1;rw[dm.keys,s3]
        exact .inr (by omega)
       ·exact .inr (by omega)
    ·simp only[T.ap,T.pair.injEq]at he;exact dm.no aI aN ((bB aN).2 ⟨ag,he.1⟩) he.2
  |_=>exact Qe (fun n=>rfl) (fun aN=>by simp[T.ap]) (by simp)
 |_=>
  cases b with
  |var j=>exact yS _ j (by simp[T.kind]) (fun n=>rfl) (fun n=>rfl) (ae j (by simp[T.occ])) bD (by simp only[T.ap,sY]at hm⊢;omega)
  |_=>first|exact acq (fun n=>rfl) (fun aN=>rfl) (fun aN=>rfl)|exact Qe (fun n=>rfl) (fun aN=>by simp[T.ap]) (by simp)
end Go.Pv
namespace Go.Pv
open Go
def xQ(rec:Int→bq→aW (Bool×bq))(v:Int)(a:bq×Bool):aW (bq×Bool):=if a.2=true then(rt a.1 v).bind fun p=>(rec p.1 p.2).map fun q=>(q.2,q.1)else some a
def xE(v:Int)(c:bq):aW (Int×bq):=(rt c v).map fun p=>(p.2.sz p.1,p.2)
def bq.grey(c:bq)(x:Int):bq:={c with color:=eH x 1 c.color,size:=eH x 1 c.size}
def bq.black(c:bq)(x:Int):bq:={c with color:=eH x 2 c.color}
def pF:Nat→Int→bq→aW (Bool×bq)
 |0,_,_=>none
 |n+1,x,c=>if c.col x=2 then some (true,c)else if c.col x=1 then some (false,c)else
   if(c.grey x).shd x=false then some (true,(c.grey x).black x)else
   (((c.grey x).shp x).foldO (xQ (pF n)) (c.grey x,true)).bind fun a=>if a.2=false then some (false,a.1)else
   (((a.1.shp x).sizeO xE a.1).map fun p=>(true,{p.2 with size:=eH x p.1 p.2.size}.black x))
def z6(rec:Int→bq→aW (T×bq))(v:Int)(c:bq):aW (T×bq):=(rt c v).bind fun p=>rec p.1 p.2
def pE:Nat→Int→bq→aW (T×bq)
 |0,_,_=>none
 |n+1,x,c=>match cW x c.full with
  |some t=>some (t,c)
  |none=>if c.shd x=false then some (.var x,{c with full:=eH x (.var x) c.full})else
   ((c.shp x).mapO (z6 (pE n)) c).map fun p=>(p.1,{p.2 with full:=eH x p.1 p.2.full})
def rk(n:Nat):List Int→bq→List Int→aW (aW (List Int)×bq)
 |[],c,out=>some (some out,c)
 |v::ba,c,out=>(rt c v).bind fun p=>(pF n p.1 p.2).bind fun q=>if q.1=false then some (none,q.2)else
   if p.1=v∧q.2.shd p.1=false then rk n ba q.2 out else
   if 5000<q.2.sz p.1∨400<out.length+1 then some (none,q.2)else rk n ba q.2 (out++[v])
def xF(n:Nat):List Int→bq→aW (List aq×bq)
 |[],c=>some ([],c)
 |v::ba,c=>(rt c v).bind fun p=>(pE n p.1 p.2).bind fun q=>(xF n ba q.2).map fun r=>(⟨v,q.1⟩::r.1,r.2)
def Cy(n:Nat)(ba:List Int)(c:bq):aW (aW (List aq)):=(rk n ba c []).bind fun a=>match a.1 with
 |none=>some none
 |some out=>(xF n out a.2).map fun r=>some r.1
def o3(n:Nat):List (T×T)→bq→aW (Bool×bq)
 |[],c=>some (true,c)
 |e::es,c=>(zb e.1 c).bind fun bE=>(zb e.2 bE).bind fun cc=>(gk n e.1 e.2 cc).bind fun p=>if p.1=true then o3 n es p.2 else some (false,p.2)
theorem ln.rank{c:bq}{ρ:Int→Int}(h:ln c ρ):∃r:Int→Nat,∀z u,iD c.ph ρ z u→r u<r z:=by
 obtain⟨aN,hb⟩:=h.sat
 exact⟨fun z=>(aN z).size,fun z u he=>FQ h.sh hb he⟩
structure sK (V:List Int) (ph:Int→aW T) (ρ:Int→Int) (c:bq):Prop where
 ru:je c.up ρ
 keys:ck c.up=V
 ph:c.ph=ph
theorem sK.sm{V:List Int}{ph:Int→aW T}{ρ:Int→Int}{c ch:bq}(h:sK V ph ρ c)(k:ic ρ c ch):sK V ph ρ ch:=⟨k.ru,k.keys.trans h.keys,k.ph.trans h.ph⟩
def cut(n:Nat):Int:=if 5001<(n:Int)then 5001 else n
section
variable {V:List Int} {ph:Int→aW T} {ρ:Int→Int} {r:Int→Nat}
theorem aiC(CQ:Int→T):∀(t:T) (c:bq),sK V ph ρ c→(∀w,t.occ w=true→w∈V∧c.sz (ρ w)=cut (CQ w).size)→∃ch,t.sizeO xE c=some (cut (t.ap CQ).size,ch)∧ic ρ c ch:=by
 intro t;induction t with
 |var v=>
  intro c h aO;obtain⟨aK,bC⟩:=aO v (by simp[T.occ]);obtain⟨bE,J,U⟩:=sr h.ru (by rw[h.keys];exact aK:v∈ck c.up);refine⟨bE,?_,U⟩;have:bE.sz (ρ v)=cut (CQ v).size:=by rw[←bC,U.eq];rfl
  simp only[T.sizeO,xE,J,ny,this,T.ap,dz,jb,and_true];unfold cut;split<;>omega
 |pair a b dO dP=>
  intro c h aO;obtain⟨bE,J,a8⟩:=dO c h fun w hw=>aO w (by simp[T.occ,hw]);obtain⟨cc,U,bU⟩:=dP bE (h.sm a8) fun w hw=>⟨(aO w (by simp[T.occ,hw])).1,by rw[←(aO w (by simp[T.occ,hw])).2,a8.eq];rfl⟩;have ae:=T.size_pos (b.ap CQ);simp only[T.sizeO,J,kA,T.ap,T.size];by_cases aw:5000<cut (a.ap CQ).size
  ·rw[if_pos aw];refine⟨bE,?_,a8⟩;simp only[dz,jb,and_true];unfold cut at aw⊢;split at aw<;>split<;>(try split)<;>omega
  ·rw[if_neg aw,U];refine⟨cc,?_,a8.trans bU⟩;simp only[ny,dz,jb,and_true];unfold cut at aw⊢;split at aw<;>(repeat' split)<;>omega
 |_=>intro c h aO;exact⟨c,by simp[T.sizeO,T.ap,T.size,cut],ic.refl h.ru⟩
structure pQ (V:List Int) (ph:Int→aW T) (ρ:Int→Int) (r:Int→Nat) (d:Nat) (c:bq):Prop where
 fin:sK V ph ρ c
 col:∀z,r z<d→c.col z=0∨(c.col z=2∧c.sz z=cut (gD ph ρ r z).size)
structure mm (ph:Int→aW T) (ρ:Int→Int) (r:Int→Nat) (d:Nat) (c ch:bq):Prop where
 full:ch.full=c.full
 hi:∀z,d≤r z→ch.col z=c.col z∧ch.sz z=c.sz z
 lo:∀z,c.col z=2→ch.col z=2∧ch.sz z=c.sz z
theorem mm.refl{c:bq}{d:Nat}:mm ph ρ r d c c:=⟨rfl,fun _ _=>⟨rfl,rfl⟩,fun _ h=>⟨h,rfl⟩⟩
theorem mm.trans{a b c:bq}{d:Nat}(h:mm ph ρ r d a b)(k:mm ph ρ r d b c):mm ph ρ r d a c:=⟨k.full.trans h.full,fun z bC=>⟨(k.hi z bC).1.trans (h.hi z bC).1,(k.hi z bC).2.trans (h.hi z bC).2⟩,fun z bC=>⟨(k.lo z (h.lo z bC).1).1,(k.lo z (h.lo z bC).1).2.trans (h.lo z bC).2⟩⟩
theorem mm.mono{a b:bq}{d b6:Nat}(aP:d≤b6)(h:mm ph ρ r d a b):mm ph ρ r b6 a b:=⟨h.full,fun z bC=>h.hi z (by omega),h.lo⟩
theorem mm.sm{c ch:bq}{d:Nat}(k:ic ρ c ch):mm ph ρ r d c ch:=by
 have aj:∀z,ch.col z=c.col z:=fun z=>by rw[k.eq];rfl
 have aC:∀z,ch.sz z=c.sz z:=fun z=>by rw[k.eq];rfl
 exact⟨k.rest.2.2,fun z _=>⟨aj z,aC z⟩,fun z h=>⟨by rw[aj];exact h,aC z⟩⟩
theorem pQ.sm{c ch:bq}{d:Nat}(h:pQ V ph ρ r d c)(k:ic ρ c ch):pQ V ph ρ r d ch:=by
 have aj:∀z,ch.col z=c.col z:=fun z=>by rw[k.eq];rfl
 have aC:∀z,ch.sz z=c.sz z:=fun z=>by rw[k.eq];rfl
 exact⟨h.fin.sm k,fun z bC=>by rw[aj,aC];exact h.col z bC⟩
theorem akB(gq:nD V ph)(eN:∀v,ρ (ρ v)=ρ v)(aJ:∀z u,iD ph ρ z u→r u<r z)(d:Nat):∀(x:Int) (c:bq),r x<d→ρ x=x→x∈V→pQ V ph ρ r d c→
  ∃N ch,(∀n,N≤n→pF n x c=some (true,ch))∧pQ V ph ρ r d ch∧mm ph ρ r (r x+1) c ch∧ch.col x=2∧ch.sz x=cut (gD ph ρ r x).size:=by
 induction d using Nat.strongRecOn with
 |ind d bM=>
 intro x c aP ad jK hw;rcases hw.col x aP with bs|⟨U,al⟩;rotate_left
 ·refine⟨1,c,fun n aA=>?_,hw,mm.refl,U,al⟩;obtain⟨n',rfl⟩:∃n',n=n'+1:=⟨n-1,by omega⟩;simp only[pF,if_pos U]
 have wv:∀z,(c.grey x).col z=if z=x then 1 else c.col z:=fun z=>by simp only[bq.grey,bq.col,mO];split<;>rfl
 have AO:∀z,(c.grey x).sz z=if z=x then 1 else c.sz z:=fun z=>by simp only[bq.grey,bq.sz,mO];split<;>rfl
 have yp:sK V ph ρ (c.grey x):=⟨hw.fin.ru,hw.fin.keys,hw.fin.ph⟩;have adg:pQ V ph ρ r (r x) (c.grey x):=⟨yp,fun z bC=>by
  have cC:z≠x:=fun e=>by subst e;omega
  rw[wv,AO,if_neg cC,if_neg cC];exact hw.col z (by omega)⟩
 have Bd:¬c.col x=2:=by omega
 have qR:¬c.col x=1:=by omega
 have fs:∀(e:bq) (z:Int),(e.black x).col z=(if z=x then 2 else e.col z):=fun e z=>by simp only[bq.black,bq.col,mO];split<;>rfl
 by_cases ag:(c.grey x).shd x=false
 ·have iV:ph x=none:=by rw[←yp.ph];exact zt ag
  have a1:gD ph ρ r x= .var x:=by rw[AN (by rw[ad];exact iV),ad]
  have dW:∀z,((c.grey x).black x).sz z=if z=x then 1 else c.sz z:=AO
  refine⟨1,(c.grey x).black x,fun n aA=>?_,⟨⟨yp.ru,yp.keys,yp.ph⟩,fun z bC=>?_⟩,⟨rfl,fun z bC=>?_,fun z bC=>?_⟩,?_,?_⟩
  ·obtain⟨n',rfl⟩:∃n',n=n'+1:=⟨n-1,by omega⟩;simp only[pF,if_neg Bd,if_neg qR,if_pos ag]
  ·rw[fs,dW,wv];by_cases e:z=x
   ·subst e;simp only[if_true,a1];exact .inr ⟨trivial,by simp[T.size,cut]⟩
   ·simp only[if_neg e];exact hw.col z bC
  ·have e:z≠x:=fun e=>by subst e;omega
   rw[fs,dW,wv];simp only[if_neg e];exact⟨trivial,trivial⟩
  ·have e:z≠x:=fun e=>by subst e;omega
   rw[fs,dW,wv];simp only[if_neg e];exact⟨bC,trivial⟩
  ·rw[fs,if_pos rfl]
  ·rw[dW,if_pos rfl,a1];simp[T.size,cut]
 ·have iV:ph x=some ((c.grey x).shp x):=by rw[←yp.ph];exact zu ag
  obtain⟨g1,g2,g3⟩:=gq _ _ iV;have ab3:∀(t:T) (e:bq),(∀w,t.occ w=true→((c.grey x).shp x).occ w=true)→pQ V ph ρ r (r x) e→∃N fB,(∀n,N≤n→t.foldO (xQ (pF n)) (e,true)=some (fB,true))∧pQ V ph ρ r (r x) fB∧mm ph ρ r (r x) e fB∧∀w,t.occ w=true→fB.col (ρ w)=2∧fB.sz (ρ w)=cut (gD ph ρ r w).size:=by
   intro t;induction t with
   |var v=>intro e mD he;have aK:=g2 v (mD v (by simp[T.occ]));have uX:r (ρ v)<r x:=aJ x (ρ v) ⟨ad,_,v,iV,mD v (by simp[T.occ]),rfl⟩;obtain⟨aj,aZ,a8⟩:=sr he.fin.ru (by rw[he.fin.keys];exact aK:v∈ck e.up);obtain⟨N,aC,bB,dq,dm,cc,s2⟩:=bM (r x) aP (ρ v) aj uX (eN v) (by rw[←he.fin.keys];exact(he.fin.ru.mem (by rw[he.fin.keys];exact aK)).1) (he.sm a8);refine⟨N,aC,fun n aA=>by simp[T.foldO,xQ,aZ,bB n aA],dq,(mm.sm a8).trans (dm.mono (by omega)),fun w hw=>?_⟩;simp[T.occ]at hw;subst hw;exact⟨cc,by rw[s2,←yq eN]⟩
   |pair a b dO dP=>
    intro e mD he;obtain⟨hr,aj,aZ,eD,cL,s1⟩:=dO e (fun w hw=>mD w (by simp[T.occ,hw])) he;obtain⟨iF,aC,bB,dq,dm,s2⟩:=dP aj (fun w hw=>mD w (by simp[T.occ,hw])) eD;refine⟨max hr iF,aC,fun n aA=>by simp only[T.foldO];rw[aZ n (by omega)];exact bB n (by omega),dq,cL.trans dm,fun w hw=>?_⟩;simp only[T.occ,mf]at hw;rcases hw with hw|hw
    ·obtain⟨kv,z2⟩:=s1 w hw;exact⟨(dm.lo _ kv).1,by rw[(dm.lo _ kv).2];exact z2⟩
    ·exact s2 w hw
   |_=>intro e _ he;exact⟨0,e,fun n _=>rfl,he,mm.refl,fun w hw=>by simp[T.occ]at hw⟩
  obtain⟨N,e,aZ,eD,cL,s1⟩:=ab3 ((c.grey x).shp x) (c.grey x) (fun w h=>h) adg;have acZ:e.shp x=(c.grey x).shp x:=by
   have J:e.ph x=some ((c.grey x).shp x):=by rw[eD.fin.ph];exact iV
   unfold bq.ph at J;split at J
   ·exact fw J
   ·cases J
  obtain⟨aC,bB,bU⟩:=aiC (V:=V) (ph:=ph) (ρ:=ρ) (gD ph ρ r) ((c.grey x).shp x) e eD.fin (fun w hw=>⟨g2 w hw,(s1 w hw).2⟩);have mE:gD ph ρ r x=((c.grey x).shp x).ap (gD ph ρ r):=yr eN aJ (by rw[ad];exact iV);have D9:=cL.trans (mm.sm (ph:=ph) (r:=r) (d:=r x) bU);have dq:=eD.sm bU;let bg:bq:={aC with size:=eH x (cut (gD ph ρ r x).size) aC.size}.black x
  have c8:∀z,bg.col z=if z=x then 2 else aC.col z:=fun z=>fs _ z
  have s3:∀z,bg.sz z=if z=x then cut (gD ph ρ r x).size else aC.sz z:=fun z=>by show(cW z (eH x _ aC.size)).getD 0=_;rw[mO];split<;>rfl
  refine⟨N+1,bg,fun n aA=>?_,⟨⟨dq.fin.ru,dq.fin.keys,dq.fin.ph⟩,fun z bC=>?_⟩,⟨D9.full,fun z bC=>?_,fun z bC=>?_⟩,by rw[c8,if_pos rfl],by rw[s3,if_pos rfl]⟩
  ·obtain⟨n',rfl⟩:∃n',n=n'+1:=⟨n-1,by omega⟩;simp only[pF,if_neg Bd,if_neg qR,if_neg ag,aZ n' (by omega),kA,Bool.true_eq_false,if_false,acZ,bB,ny,mE,bg]
  ·rw[c8,s3];by_cases na:z=x
   ·subst na;simp only[if_true];exact .inr ⟨trivial,trivial⟩
   ·simp only[if_neg na];by_cases bu:r z<r x
    ·exact dq.col z bu
    ·obtain⟨bz,a2⟩:=D9.hi z (by omega);rw[bz,a2,wv,AO,if_neg na,if_neg na];exact hw.col z bC
  ·have na:z≠x:=fun e=>by subst e;omega
   obtain⟨bz,a2⟩:=D9.hi z (by omega);rw[c8,s3,if_neg na,if_neg na,bz,a2,wv,AO,if_neg na,if_neg na];exact⟨rfl,rfl⟩
  ·have na:z≠x:=fun e=>by subst e;omega
   obtain⟨bz,a2⟩:=D9.lo z (by rw[wv,if_neg na];exact bC);rw[c8,s3,if_neg na,if_neg na,bz,a2,AO,if_neg na];exact⟨rfl,rfl⟩
structure qt (V:List Int) (ph:Int→aW T) (ρ:Int→Int) (r:Int→Nat) (c:bq):Prop where
 fin:sK V ph ρ c
 full:∀x t,cW x c.full=some t→t=gD ph ρ r x
theorem qt.sm{c ch:bq}(h:qt V ph ρ r c)(k:ic ρ c ch):qt V ph ρ r ch:=⟨h.fin.sm k,by rw[k.rest.2.2];exact h.full⟩
theorem akz(gq:nD V ph)(eN:∀v,ρ (ρ v)=ρ v)(aJ:∀z u,iD ph ρ z u→r u<r z)(d:Nat):∀(x:Int) (c:bq),r x<d→ρ x=x→x∈V→qt V ph ρ r c→
  ∃N ch,(∀n,N≤n→pE n x c=some (gD ph ρ r x,ch))∧qt V ph ρ r ch:=by
 induction d with
 |zero=>intro x c h;omega
 |succ d bM=>
 intro x c aP ad jK aK;cases aI:cW x c.full with
 |some t=>refine⟨1,c,fun n aA=>?_,aK⟩;obtain⟨n',rfl⟩:∃n',n=n'+1:=⟨n-1,by omega⟩;simp only[pE,aI,aK.full x t aI]
 |none=>
  have QT:∀(e:bq),qt V ph ρ r e→qt V ph ρ r {e with full:=eH x (gD ph ρ r x) e.full}:=fun e he=>⟨⟨he.fin.ru,he.fin.keys,he.fin.ph⟩,fun z t bC=>by
   have qZ:cW z (eH x (gD ph ρ r x) e.full)=some t:=bC;rw[mO]at qZ;split at qZ
   ·rename_i e;subst e;cases qZ;rfl
   ·exact he.full z t qZ⟩
  by_cases ag:c.shd x=false
  ·have iV:ph x=none:=by rw[←aK.fin.ph];exact zt ag
   have a1:gD ph ρ r x= .var x:=by rw[AN (by rw[ad];exact iV),ad]
   refine⟨1,_,fun n aA=>?_,QT c aK⟩;obtain⟨n',rfl⟩:∃n',n=n'+1:=⟨n-1,by omega⟩;simp only[pE,aI,if_pos ag,a1]
  ·have iV:ph x=some (c.shp x):=by rw[←aK.fin.ph];exact zu ag
   obtain⟨g1,g2,g3⟩:=gq _ _ iV;have acv:∀(t:T) (e:bq),(∀w,t.occ w=true→(c.shp x).occ w=true)→qt V ph ρ r e→∃N fB,(∀n,N≤n→t.mapO (z6 (pE n)) e=some (t.ap (gD ph ρ r),fB))∧qt V ph ρ r fB:=by
    intro t;induction t with
    |var v=>intro e mD he;have u1:=g2 v (mD v (by simp[T.occ]));have uX:r (ρ v)<r x:=aJ x (ρ v) ⟨ad,_,v,iV,mD v (by simp[T.occ]),rfl⟩;obtain⟨aj,aZ,a8⟩:=sr he.fin.ru (by rw[he.fin.keys];exact u1:v∈ck e.up);obtain⟨N,aC,bB,dq⟩:=bM (ρ v) aj (by omega) (eN v) (by rw[←he.fin.keys];exact(he.fin.ru.mem (by rw[he.fin.keys];exact u1)).1) (he.sm a8);exact⟨N,aC,fun n aA=>by simp only[T.mapO,z6,aZ,kA,bB n aA,T.ap];rw[←yq eN],dq⟩
    |pair a b dO dP=>intro e mD he;obtain⟨hr,aj,aZ,eD⟩:=dO e (fun w hw=>mD w (by simp[T.occ,hw])) he;obtain⟨iF,aC,bB,dq⟩:=dP aj (fun w hw=>mD w (by simp[T.occ,hw])) eD;exact⟨max hr iF,aC,fun n aA=>by simp only[T.mapO,aZ n (by omega),kA,bB n (by omega),ny,T.ap],dq⟩
    |_=>intro e _ he;exact⟨0,e,fun n _=>rfl,he⟩
   obtain⟨N,e,aZ,eD⟩:=acv (c.shp x) c (fun w h=>h) aK;have mE:gD ph ρ r x=(c.shp x).ap (gD ph ρ r):=yr eN aJ (by rw[ad];exact iV);refine⟨N+1,_,fun n aA=>?_,QT e eD⟩;obtain⟨n',rfl⟩:∃n',n=n'+1:=⟨n-1,by omega⟩;simp only[pE,aI,if_neg ag,aZ n' (by omega),ny,mE]
def mZ(ph:Int→aW T)(ρ:Int→Int)(v:Int):Bool:= !(decide (ρ v=v)&&(ph v).isNone)
theorem aiF(gq:nD V ph)(eN:∀v,ρ (ρ v)=ρ v)(aJ:∀z u,iD ph ρ z u→r u<r z)(ji:∀v∈V,ρ v∈V):∀(ba:List Int) (c:bq) (out:List Int),(∀v∈ba,v∈V)→(∀d,pQ V ph ρ r d c)→out.length≤400→(∀v∈out,(gD ph ρ r v).size≤5000)→
  ∃N ch o,(∀n,N≤n→rk n ba c out=some (o,ch))∧sK V ph ρ ch∧ch.full=c.full∧(∀l,o=some l→l=out++ba.filter (mZ ph ρ)∧l.length≤400∧∀v∈l,(gD ph ρ r v).size≤5000)∧(o=none→¬((out++ba.filter (mZ ph ρ)).length≤400∧∀v∈out++ba.filter (mZ ph ρ),(gD ph ρ r v).size≤5000)):=by
 intro ba;induction ba with
 |nil=>intro c out _ hw J U;exact⟨0,c,some out,fun n _=>rfl,(hw 0).fin,rfl,fun l e=>by cases e;simp;exact⟨J,U⟩,fun e=>by cases e⟩
 |cons v ba bM=>
  intro c out aK hw J U;have u1:=aK v (by simp);obtain⟨bE,aZ,a8⟩:=sr (hw 0).fin.ru (by rw[(hw 0).fin.keys];exact u1:v∈ck c.up);have Ei:∀d,pQ V ph ρ r d bE:=fun d=>(hw d).sm a8;obtain⟨hr,cc,bB,dq,dm,aC,s2⟩:=akB gq eN aJ (r (ρ v)+1) (ρ v) bE (by omega) (eN v) (ji v u1) (Ei _);have nS:∀d,pQ V ph ρ r d cc:=fun d=>⟨dq.fin,fun z bC=>by
   by_cases bu:r z<r (ρ v)+1
   ·exact dq.col z bu
   ·obtain⟨bz,a2⟩:=dm.hi z (by omega);rw[bz,a2];exact(Ei d).col z bC⟩
  have Ig:cc.full=c.full:=dm.full.trans a8.rest.2.2;have QZ:(cc.shd (ρ v)=false)=((ph (ρ v)).isNone=true):=by rw[←dq.fin.ph];unfold bq.ph;cases cc.shd (ρ v)<;>simp
  have jk:∀n,hr≤n→rk n (v::ba) c out=(if ρ v=v∧cc.shd (ρ v)=false then rk n ba cc out else if 5000<cc.sz (ρ v)∨400<out.length+1 then some (none,cc)else rk n ba cc (out++[v])):=fun n aA=>by simp only[rk,aZ,kA,bB n aA,Bool.true_eq_false,if_false]
  have Qr:gD ph ρ r (ρ v)=gD ph ρ r v:=(yq eN v).symm;by_cases aw:ρ v=v∧cc.shd (ρ v)=false
  ·have ae:mZ ph ρ v=false:=by have al:=aw.2;rw[QZ]at al;rw[aw.1]at al;simp[mZ,aw.1,al]
   obtain⟨iF,c8,o,bQ,f3,pC,Ge,iK⟩:=bM cc out (fun w hw=>aK w (by simp[hw])) nS J U;refine⟨max hr iF,c8,o,fun n aA=>by rw[jk n (by omega),if_pos aw];exact bQ n (by omega),f3,pC.trans Ig,?_,?_⟩
   ·simp only[List.filter_cons,ae,gI,if_false];exact Ge
   ·simp only[List.filter_cons,ae,gI,if_false];exact iK
  ·have ae:mZ ph ρ v=true:=by
    cases e:mZ ph ρ v with
    |true=>rfl
    |false=>simp only[mZ,Bool.not_eq_false',cA,fx]at e;exact absurd ⟨e.1,by rw[QZ,e.1];exact e.2⟩ aw
   by_cases au:5000<cc.sz (ρ v)∨400<out.length+1
   ·refine⟨hr,cc,none,fun n aA=>by rw[jk n aA,if_neg aw,if_pos au],dq.fin,Ig,(fun l e=>by cases e),fun _=>?_⟩;simp only[List.filter_cons,ae,if_true];rintro⟨bz,a2⟩;rcases au with au|au
    ·rw[s2,Qr]at au;have:=a2 v (by simp);unfold cut at au;split at au<;>omega
    ·simp at bz;omega
   ·have bC:(gD ph ρ r v).size≤5000:=by have:¬5000<cc.sz (ρ v):=fun h=>au (.inl h);rw[s2,Qr]at this;unfold cut at this;split at this<;>omega
    obtain⟨iF,c8,o,bQ,f3,pC,Ge,iK⟩:=bM cc (out++[v]) (fun w hw=>aK w (by simp[hw])) nS (by simp;omega) (fun w hw=>by
     rcases ki.1 hw with hw|hw
     ·exact U w hw
     ·simp at hw;subst hw;exact bC)
    refine⟨max hr iF,c8,o,fun n aA=>by rw[jk n (by omega),if_neg aw,if_neg au];exact bQ n (by omega),f3,pC.trans Ig,?_,?_⟩
    ·simp only[List.filter_cons,ae,if_true];simpa using Ge
    ·simp only[List.filter_cons,ae,if_true];simpa using iK
theorem aiG(gq:nD V ph)(eN:∀v,ρ (ρ v)=ρ v)(aJ:∀z u,iD ph ρ z u→r u<r z)(ji:∀v∈V,ρ v∈V):∀(ba:List Int) (c:bq),(∀v∈ba,v∈V)→qt V ph ρ r c→∃N ch,∀n,N≤n→xF n ba c=some (ba.map fun v=>⟨v,gD ph ρ r v⟩,ch):=by
 intro ba;induction ba with
 |nil=>intro c _ _;exact⟨0,c,fun n _=>rfl⟩
 |cons v ba bM=>intro c aK hw;have u1:=aK v (by simp);obtain⟨bE,aZ,a8⟩:=sr hw.fin.ru (by rw[hw.fin.keys];exact u1:v∈ck c.up);obtain⟨hr,cc,bB,dq⟩:=akz gq eN aJ (r (ρ v)+1) (ρ v) bE (by omega) (eN v) (ji v u1) (hw.sm a8);obtain⟨iF,c8,bQ⟩:=bM cc (fun w hw=>aK w (by simp[hw])) dq;refine⟨max hr iF,c8,fun n aA=>?_⟩;simp only[xF,aZ,kA,bB n (by omega),bQ n (by omega),ny,gX];rw[←yq eN]
end
end Go.Pv
namespace Go.Pv
open Go
def bq.new:bq:=⟨[],[],[],[],[],[]⟩
def qi(l:List Int):List Int:=l.mergeSort fun x y=>decide (x≤y)
def zP(n:Nat)(E:List (T×T)):aW (aW (List aq)):=(o3 n E bq.new).bind fun p=>if p.1=false then some none else Cy n (qi (ck p.2.up)) p.2
theorem CB(l:List Int):(qi l).Perm l:=List.mergeSort_perm l _
theorem aiU{l:List Int}(h:l.Nodup):(qi l).Pairwise (· < ·):=by have J:(qi l).Pairwise fun x y=>decide (x≤y)=true:=List.pairwise_mergeSort (fun a b c=>by simp;omega) (fun a b=>by simp;omega) l;have U:(qi l).Pairwise (· ≠ ·):=List.nodup_iff_pairwise_ne.1 ((CB l).nodup_iff.2 h);exact(J.and U).imp fun h=>by simp at h;omega
structure V3 (c:bq) (ρ:Int→Int) (ch:bq) (SL:Int→Prop):Prop where
 inv:ln ch ρ
 ph:ch.ph=c.ph
 nd:(ck ch.up).Nodup
 sub:∀v∈ck c.up,v∈ck ch.up
 occ:∀v,SL v→v∈ck ch.up
 rest:ch.color=c.color∧ch.size=c.size∧ch.full=c.full
 new:∀v∈ck ch.up,v∈ck c.up∨SL v
theorem Sp{ρ:Int→Int}(t:T):∀(c:bq),ln c ρ→(ck c.up).Nodup→(∀v,t.occ v=true→0≤v)→∃ch,zb t c=some ch∧V3 c ρ ch fun v=>t.occ v=true:=by
 unfold zb;induction t with
 |var v=>
  intro c hi aA bs;by_cases aK:v∈ck c.up
  ·obtain⟨bE,aZ,a8⟩:=sr hi.ru aK;refine⟨bE,by simp[T.foldO,aZ],hi.sm a8,a8.ph,by rw[a8.keys];exact aA,fun w hw=>by rw[a8.keys];exact hw,fun w hw=>?_,a8.rest,fun w hw=>.inl (by rw[a8.keys]at hw;exact hw)⟩;simp[T.occ]at hw;subst hw;rw[a8.keys];exact aK
  ·obtain⟨aZ,bB,bQ⟩:=aii hi.ru (bs v (by simp[T.occ])) aK;refine⟨{c with up:=eH v v c.up},by simp only[T.foldO,aZ,ny],⟨bB,?_,hi.sat⟩,rfl,?_,fun w hw=>by rw[bQ];simp[hw],fun w hw=>?_,⟨rfl,rfl,rfl⟩,fun w hw=>?_⟩
   ·intro x u ad;obtain⟨bz,a2,a3⟩:=hi.sh x u ad;refine⟨bz,fun w hw=>?_,?_⟩
    ·show w∈ck (eH v v c.up);rw[bQ];simp[a2 w hw]
    ·show x∈ck (eH v v c.up);rw[bQ];simp[a3]
   ·rw[bQ];rw[List.nodup_append];exact⟨aA,by simp,fun a bD b ae e=>by simp at ae;subst ae;subst e;exact aK bD⟩
   ·simp[T.occ]at hw;subst hw;rw[bQ];simp
   ·rw[bQ]at hw;simp at hw;rcases hw with hw|rfl;exact .inl hw;exact .inr (by simp[T.occ])
 |pair a b dO dP=>
  intro c hi aA bs;obtain⟨bE,aZ,m1⟩:=dO c hi aA fun v aK=>bs v (by simp[T.occ,aK]);obtain⟨cc,bB,m2⟩:=dP bE m1.inv m1.nd fun v aK=>bs v (by simp[T.occ,aK]);refine⟨cc,by simp only[T.foldO,aZ,kA,bB],m2.inv,m2.ph.trans m1.ph,m2.nd,fun v aK=>m2.sub v (m1.sub v aK),fun v aK=>?_,?_,fun v aK=>?_⟩
  ·simp only[T.occ,mf]at aK;rcases aK with aK|aK
   ·exact m2.sub v (m1.occ v aK)
   ·exact m2.occ v aK
  ·rw[m2.rest.1,m2.rest.2.1,m2.rest.2.2];exact m1.rest
  ·rcases m2.new v aK with h|h
   ·rcases m1.new v h with h|h
    ·exact .inl h
    ·exact .inr (by simp[T.occ,h])
   ·exact .inr (by simp[T.occ,h])
 |_=>intro c hi aA bs;exact⟨c,rfl,hi,rfl,aA,fun v aK=>aK,fun v aK=>by simp[T.occ]at aK,⟨rfl,rfl,rfl⟩,fun v aK=>.inl aK⟩
def JP(E:List (T×T)):Prop:= ∀e∈E,∀v,(e.1.occ v=true∨e.2.occ v=true)→0≤v
theorem Az:∀(E:List (T×T)) (c:bq) (ρ:Int→Int),ln c ρ→(ck c.up).Nodup→JP E→∃N o,(∀n,N≤n→o3 n E c=some o)∧((o.2.color=c.color∧o.2.size=c.size∧o.2.full=c.full)∧∀v∈ck o.2.up,v∈ck c.up∨ ∃e∈E,e.1.occ v=true∨e.2.occ v=true)∧(o.1=true→∃ρ',ln o.2 ρ'∧(ck o.2.up).Nodup∧∀aN,jF o.2.ph ρ' aN↔jF c.ph ρ aN∧jf E aN)∧(o.1=false→∀aN,jF c.ph ρ aN→¬jf E aN):=by
 intro E;induction E with
 |nil=>intro c ρ hi aA _;exact⟨0,(true,c),fun n _=>rfl,⟨⟨rfl,rfl,rfl⟩,fun v aK=>.inl aK⟩,fun _=>⟨ρ,hi,aA,fun aN=>⟨fun h=>⟨h,CA aN⟩,fun h=>h.1⟩⟩,fun e=>by cases e⟩
 |cons e E bM=>
  intro c ρ hi aA bs;obtain⟨bE,aZ,m1⟩:=Sp e.1 c hi aA fun v aK=>bs e (by simp) v (.inl aK);obtain⟨cc,bB,m2⟩:=Sp e.2 bE m1.inv m1.nd fun v aK=>bs e (by simp) v (.inr aK);obtain⟨kx,tu⟩:=m2.inv.sat
  obtain⟨hr,gF,bQ,iy⟩:=XL _ _ cc ρ e.1 e.2 kx m2.inv tu (fun w hw=>m2.sub w (m1.occ w hw)) (fun w hw=>m2.occ w hw) rfl rfl;have iV:cc.ph=c.ph:=m2.ph.trans m1.ph;have lW:gF.2.color=c.color∧gF.2.size=c.size∧gF.2.full=c.full:=by rw[iy.rest.1,iy.rest.2.1,iy.rest.2.2,m2.rest.1,m2.rest.2.1,m2.rest.2.2];exact m1.rest
  have D3:∀v∈ck gF.2.up,v∈ck c.up∨e.1.occ v=true∨e.2.occ v=true:=fun v aK=>by
   rw[iy.keys]at aK;rcases m2.new v aK with h|h
   ·rcases m1.new v h with h|h
    ·exact .inl h
    ·exact .inr (.inl h)
   ·exact .inr (.inr h)
  obtain⟨f,c8⟩:=gF;cases f with
  |false=>refine⟨hr,(false,c8),fun n aA=>?_,⟨lW,fun v aK=>(D3 v aK).imp id fun h=>⟨e,by simp,h⟩⟩,(fun e=>by cases e),fun _ aN ag he=>iy.no rfl aN (by rw[iV];exact ag) (qg.1 he).1⟩;simp only[o3,aZ,bB,kA,bQ n aA,gI,if_false]
  |true=>
   obtain⟨kP,bz,a2,_⟩:=iy.yes rfl;simp only at bz a2;obtain⟨iF,gy,b9,bZ,fy,ov⟩:=bM c8 kP bz (by have:=iy.keys;simp only at this;rw[this];exact m2.nd) fun fB he=>bs fB (by simp[he]);refine⟨max hr iF,gy,fun n aA=>?_,?_,fun aI=>?_,fun aI aN ag he=>?_⟩
   ·simp only[o3,aZ,bB,kA,bQ n (by omega),if_true];exact b9 n (by omega)
   ·refine⟨by rw[bZ.1.1,bZ.1.2.1,bZ.1.2.2];exact lW,fun v aK=>?_⟩;rcases bZ.2 v aK with h|⟨fB,J,U⟩
    ·exact(D3 v h).imp id fun h=>⟨e,by simp,h⟩
    ·exact .inr ⟨fB,by simp[J],U⟩
   ·obtain⟨ρ2,d1,d2,d3⟩:=fy aI;exact⟨ρ2,d1,d2,fun aN=>by rw[d3 aN,a2 aN,iV,qg,and_assoc]⟩
   ·exact ov aI aN ((a2 aN).2 ⟨by rw[iV];exact ag,(qg.1 he).1⟩) (qg.1 he).2
theorem C6{ph:Int→aW T}{ρ:Int→Int}{v:Int}:mZ ph ρ v=false↔ρ v=v∧ph v=none:=by simp[mZ]
theorem PZ{ph:Int→aW T}{ρ:Int→Int}{r:Int→Nat}(eN:∀v,ρ (ρ v)=ρ v):∀(n:Nat) (v w:Int),(mo ph ρ n v).occ w=true→(∀z u,iD ph ρ z u→r u<r z)→r (ρ v)<n→ρ w=w∧ph w=none
 |0,v,w,_,_,h=>by omega
 |n+1,v,w,h,aJ,aA=>by
  simp only[mo]at h;cases e:ph (ρ v)with
  |none=>rw[e]at h;simp[T.occ]at h;subst h;exact⟨eN v,e⟩
  |some t=>rw[e]at h;obtain⟨u,J,U⟩:=BZ.1 h;have:=aJ (ρ v) (ρ u) ⟨eN v,t,u,e,J,rfl⟩;exact PZ eN n u w U aJ (by omega)
section
variable {V:List Int} {ph:Int→aW T} {ρ:Int→Int} {r:Int→Nat}
def ss(ph:Int→aW T)(ρ:Int→Int)(r:Int→Nat)(V:List Int):List aq:=((qi V).filter (mZ ph ρ)).map fun v=>⟨v,gD ph ρ r v⟩
theorem KZ(aA:V.Nodup):h9 (ss ph ρ r V):=by unfold ss;rw[h9,List.pairwise_map];exact((aiU aA).filter _)
theorem Uu(aA:V.Nodup)(gq:nD V ph)(de:∀v,v∉V→ρ v=v)(v:Int):dd (ss ph ρ r V) v=if mZ ph ρ v then some (gD ph ρ r v)else none:=by
 by_cases ae:mZ ph ρ v=true
 ·rw[if_pos ae];have aK:v∈V:=by
   refine Classical.byContradiction fun h=>?_;have J:=de v h;have U:ph v=none:=by cases e:ph v with
    |none=>rfl
    |some t=>exact absurd (gq v t e).2.2 h
   rw[C6.2 ⟨J,U⟩]at ae;cases ae
  have:(⟨v,gD ph ρ r v⟩:aq)∈ss ph ρ r V:=iC.2 ⟨v,mT.2 ⟨(CB V).mem_iff.2 aK,ae⟩,rfl⟩;exact uo (KZ aA) this
 ·rw[if_neg ae];refine uq.2 fun b fL e=>?_;obtain⟨u,J,rfl⟩:=iC.1 fL;simp only at e;subst e;exact ae (mT.1 J).2
theorem aiI(aA:V.Nodup)(gq:nD V ph)(de:∀v,v∉V→ρ v=v)(eN:∀v,ρ (ρ v)=ρ v)(hle:∀v,ρ v≤v)(aJ:∀z u,iD ph ρ z u→r u<r z):fu (ss ph ρ r V):=by
 refine⟨KZ aA,fun b ae w hw=>?_,fun b ae w hw=>?_⟩
 ·obtain⟨u,J,rfl⟩:=iC.1 ae;rw[Uu aA gq de];have:=PZ eN _ u w hw aJ (by omega);rw[C6.2 this];rfl
 ·obtain⟨u,J,rfl⟩:=iC.1 ae;have oH:=(mT.1 J).2;simp only at hw⊢;cases e:ph (ρ u)with
  |none=>
   rw[AN e]at hw;cases hw;have U:=hle u;have al:ρ u≠u:=fun h=>by rw[C6.2 ⟨h,by rw[h]at e;exact e⟩]at oH;cases oH
   omega
  |some t=>rw[yr eN aJ e]at hw;have:=(gq _ _ e).1;cases t<;>simp[T.ap,T.kind]at hw this
theorem abq(eN:∀v,ρ (ρ v)=ρ v)(aJ:∀z u,iD ph ρ z u→r u<r z)(aN:Int→T):jF ph ρ aN↔∀v,aN v=(gD ph ρ r v).ap aN:=by
 constructor
 ·intro h;have:∀(n:Nat) (v:Int),r (ρ v)<n→aN v=(gD ph ρ r v).ap aN:=by
   intro n;induction n with
   |zero=>intro v h;omega
   |succ n bM=>
    intro v aK;cases e:ph (ρ v)with
    |none=>rw[AN e];exact h.1 v
    |some t=>rw[yr eN aJ e,Ak,h.1 v,h.2 _ t (eN v) e];refine sS fun w hw=>bM w ?_;have:=aJ (ρ v) (ρ w) ⟨eN v,t,w,e,hw,rfl⟩;omega
  exact fun v=>this _ v (Nat.lt_succ_self _)
 ·intro h;refine⟨fun v=>by rw[h v,h (ρ v),←yq eN],fun x t ad aO=>?_⟩;rw[h x,yr eN aJ (by rw[ad];exact aO),Ak];exact sS fun w _=>(h w).symm
theorem aiH(aA:V.Nodup)(gq:nD V ph)(de:∀v,v∉V→ρ v=v)(eN:∀v,ρ (ρ v)=ρ v)(aJ:∀z u,iD ph ρ z u→r u<r z)(aN:Int→T):gC (ss ph ρ r V) aN↔jF ph ρ aN:=by
 rw[abq eN aJ,aiO (KZ aA)];refine forall_congr' fun v=>?_;rw[cx,Uu aA gq de];cases e:mZ ph ρ v with
 |true=>simp
 |false=>obtain⟨J,U⟩:=C6.1 e;rw[AN (by rw[J];exact U),J];simp
end
theorem aiP(E:List (T×T))(bs:JP E):∃n o,zP n E=some o∧ie [] E o∧∀c,o3 n E bq.new=some (true,c)→(ck c.up).Nodup∧(∀v∈ck c.up,∃e∈E,e.1.occ v=true∨e.2.occ v=true)∧c.size=[]:=by
 have hi:ln bq.new id:=⟨⟨fun v u h=>by simp[bq.new,cW]at h,fun v _=>rfl⟩,fun x t h=>by simp[bq.new,bq.ph,bq.shd,cW]at h,⟨.var,fun v=>rfl,fun x t _ h=>by simp[bq.new,bq.ph,bq.shd,cW]at h⟩⟩;have td:∀aN,jF bq.new.ph id aN:=fun aN=>⟨fun v=>rfl,fun x t _ h=>by simp[bq.new,bq.ph,bq.shd,cW]at h⟩;obtain⟨hr,gF,aZ,cL,dm,iy⟩:=Az E bq.new id hi (by simp[bq.new,ck]) bs;obtain⟨cL,Tg⟩:=cL;obtain⟨f,c⟩:=gF;cases f with
 |false=>refine⟨hr,none,by simp[zP,aZ hr (eQ _)],C2 fun aN _ he=>iy rfl aN (td aN) he,fun c h=>?_⟩;rw[aZ hr (eQ _)]at h;cases h
 |true=>
  obtain⟨ρ,bz,a2,a3⟩:=dm rfl;simp only at bz a2 a3 cL Tg;have Qm:∀n,hr≤n→∀ch,o3 n E bq.new=some (true,ch)→(ck ch.up).Nodup∧(∀v∈ck ch.up,∃e∈E,e.1.occ v=true∨e.2.occ v=true)∧ch.size=[]:=fun n aA ch h=>by rw[aZ n aA]at h;cases h;exact⟨a2,fun v aK=>(Tg v aK).resolve_left (by simp[bq.new,ck]),cL.2.1⟩
  obtain⟨r,aJ⟩:=bz.rank;have eN:=bz.ru.idem;have ji:∀v∈ck c.up,ρ v∈ck c.up:=fun v aK=>(bz.ru.mem aK).1;have dw:sK (ck c.up) c.ph ρ c:=⟨bz.ru,rfl,rfl⟩;have hw:∀d,pQ (ck c.up) c.ph ρ r d c:=fun d=>⟨dw,fun z _=>.inl (by simp[bq.col,cL.1,bq.new,cW])⟩;obtain⟨iF,cc,o,b9,bZ,fy,ov,Mg⟩:=aiF bz.sh eN aJ ji (qi (ck c.up)) c [] (fun v aK=>(CB _).mem_iff.1 aK) hw (by simp) (fun v aK=>by simp at aK);have dv:=aiI (r:=r) a2 bz.sh bz.ru.no eN bz.ru.le aJ;have kH:∀aN,gC (ss c.ph ρ r (ck c.up)) aN↔gC [] aN∧jf E aN:=fun aN=>by rw[aiH a2 bz.sh bz.ru.no eN aJ,a3 aN];exact⟨fun h=>⟨fun b ae=>by simp at ae,h.2⟩,fun h=>⟨td aN,h.2⟩⟩
  have Qo:hg (ss c.ph ρ r (ck c.up))↔(([]++(qi (ck c.up)).filter (mZ c.ph ρ)).length≤400∧∀v∈[]++(qi (ck c.up)).filter (mZ c.ph ρ),(gD c.ph ρ r v).size≤5000):=by unfold hg ss;simp only[List.length_map,bT,iC,forall_exists_index,and_imp,forall_apply_eq_imp_iff₂]
  cases o with
  |none=>refine⟨max hr iF,none,by simp[zP,aZ (max hr iF) (by omega),Cy,b9 (max hr iF) (by omega)],?_,Qm _ (by omega)⟩;exact fun ai J U al=>Mg rfl (Qo.1 (Pp dv J (fun aN hb=>(kH aN).2 (U aN hb)) al))
  |some l=>
   obtain⟨aj,aC,bg⟩:=ov l rfl;have adb:qt (ck c.up) c.ph ρ r cc:=⟨bZ,fun x t h=>by rw[fy,cL.2.2]at h;simp[bq.new,cW]at h⟩;simp only[bT]at aj;obtain⟨xX,c8,d1⟩:=aiG bz.sh eN aJ ji l cc (fun v aK=>by rw[aj]at aK;exact(CB _).mem_iff.1 (mT.1 aK).1) adb;refine⟨max (max hr iF) xX,some (ss c.ph ρ r (ck c.up)),?_,⟨⟨dv,Qo.2 ?_⟩,kH⟩,Qm _ (by omega)⟩
   ·simp only[zP,aZ (max (max hr iF) xX) (by omega),kA,Bool.true_eq_false,if_false,Cy,b9 (max (max hr iF) xX) (by omega),d1 (max (max hr iF) xX) (by omega),ny];rw[aj];rfl
   ·rw[bT,←aj];exact⟨aC,bg⟩
def hs(s:List aq):List (T×T):=s.map fun b=>(.var b.v,b.t)
theorem aiN{s:List aq}{aN:Int→T}:jf (hs s) aN↔gC s aN:=by simp[jf,hs,gC,T.ap]
theorem Wd{s:List aq}{E:List (T×T)}{o:aW (List aq)}:ie [] (hs s++E) o↔ie s E o:=by
 have h:∀aN,(gC [] aN∧jf (hs s++E) aN)↔(gC s aN∧jf E aN):=fun aN=>by rw[Cz,aiN];exact⟨fun h=>h.2,fun h=>⟨fun b ae=>by simp at ae,h⟩⟩
 exact⟨Ai h,Ai fun aN=>(h aN).symm⟩
end Go.Pv
namespace Go.Pv
open Go
open Classical in
noncomputable def mgu(s:List aq)(E:List (T×T)):aW (List aq):=if h:∃o,ie s E o then h.choose else none
theorem q8{s:List aq}{E:List (T×T)}{o:aW (List aq)}(h:ie s E o):mgu s E=o:=by have ad:∃o,ie s E o:=⟨o,h⟩;unfold mgu;rw[dif_pos ad];exact We ad.choose_spec h
def pA(s:List aq):Prop:= ∀b∈s,(0≤b.v∧b.v≤100000)∧b.t.ok=true
theorem Ma{aN:Int→T}{t:T}(aO:t.ok=true)(h:∀v,t.occ v=true→(aN v).ok=true):(t.ap aN).ok=true:=by
 induction t with
 |var n=>exact h n (by simp[T.occ])
 |pair a b dO dP=>simp only[T.ok,cA]at aO;simp only[T.ap,T.ok,cA];exact⟨dO aO.1 fun v aK=>h v (by simp[T.occ,aK]),dP aO.2 fun v aK=>h v (by simp[T.occ,aK])⟩
 |_=>exact aO
theorem vM{t:T}(aO:t.ok=true){v:Int}(h:t.occ v=true):0≤v∧v≤100000:=by
 induction t with
 |var n=>simp[T.occ]at h;subst h;simpa[T.ok]using aO
 |pair a b dO dP=>
  simp only[T.ok,cA]at aO;simp only[T.occ,mf]at h;rcases h with h|h
  ·exact dO aO.1 h
  ·exact dP aO.2 h
 |_=>simp[T.occ]at h
theorem FL{s:List aq}(ag:pA s){t:T}(aO:t.ok=true):(t.ap (cx s)).ok=true:=Ma aO fun v aK=>by
 unfold cx;cases e:dd s v with
 |none=>have:=vM aO aK;simpa[T.ok]using this
 |some x=>exact(ag _ (jH e)).2
theorem Ao{s:List aq}(ag:pA s){v:Int}{t:T}(aK:0≤v∧v≤100000)(aO:t.ok=true){ai:List aq}(h:mY s v t=some ai):pA ai:=by
 unfold mY at h;split at h
 ·cases h;intro b ae;rcases pq.1 ae with rfl|⟨c,aw,rfl⟩
  ·exact⟨aK,FL ag aO⟩
  ·refine⟨(ag c aw).1,Ma (ag c aw).2 fun w hw=>?_⟩;unfold one;split
   ·exact FL ag aO
   ·have:=vM (ag c aw).2 hw;simpa[T.ok]using this
 ·cases h
theorem VC{s:List aq}(ag:pA s){t:T}(aO:t.ok=true):(gV s t).ok=true:=by
 cases t with
 |var n=>have:=FL ag aO;simpa[gV,T.ap]using this
 |_=>exact aO
theorem Lk:∀(n:Nat) (s:List aq) (a b:T) (ai:List aq),pA s→a.ok=true→b.ok=true→kf n s a b=some (some ai)→pA ai
 |0,_,_,_,_,_,_,_,h=>by simp[kf]at h
 |n+1,s,a,b,ai,ag,bD,ae,h=>by
  have ad:=VC ag bD;have aL:=VC ag ae;simp only[kf]at h;generalize gV s a=x at h ad;generalize gV s b=y at h aL;have u2:∀{i:Int},(T.var i).ok=true→0≤i∧i≤100000:=fun h=>vM h (by simp[T.occ]);cases x with
  |var i=>
   cases y with
   |var j=>
    simp only[jD,dz]at h;split at h
    ·exact Ao ag (u2 aL) ad h
    ·split at h
     ·cases h;exact ag
     ·exact Ao ag (u2 ad) aL h
   |_=>simp only[jD,dz]at h;exact Ao ag (u2 ad) aL h
  |pair bz a2=>
   cases y with
   |var j=>simp only[jD,dz]at h;exact Ao ag (u2 aL) ad h
   |pair b9 bZ=>
    simp only[T.ok,cA]at ad aL;simp only[jD]at h;split at h
    ·cases h
    ·cases h
    ·rename_i s1 aj;exact Lk n s1 a2 bZ ai (Lk n s bz b9 s1 ag ad.1 aL.1 aj) ad.2 aL.2 h
   |_=>simp[jD]at h
  |_=>
   cases y with
   |var j=>simp only[jD,dz]at h;exact Ao ag (u2 aL) ad h
   |_=>
    simp only[jD,dz]at h;split at h
    ·cases h;exact ag
    ·cases h
def mQ:T→List Int
 | .var n=>[n]
 | .pair a b=>mQ a++mQ b
 |_=>[]
theorem xe{t:T}{v:Int}(h:t.occ v=true):v∈mQ t:=by
 induction t with
 |var n=>simp[T.occ]at h;subst h;simp[mQ]
 |pair a b dO dP=>simp only[T.occ,mf]at h;simp only[mQ,ki];exact h.imp dO dP
 |_=>simp[T.occ]at h
theorem F1{s:List aq}(ag:fu s)(aI:hg s)(a b:T):∃n o,kf n s a b=some o∧ie s [(a,b)] o:=by obtain⟨n,o,J,U⟩:=U6 (s.flatMap (fun b=>b.v::mQ b.t)++mQ a++mQ b) _ _ s a b ag aI (fun c aw=>⟨by simp only[ki,List.mem_flatMap];exact .inl (.inl ⟨c,aw,by simp⟩),fun w hw=>by simp only[ki,List.mem_flatMap];exact .inl (.inl ⟨c,aw,by simp[xe hw]⟩)⟩) (fun w hw=>by simp[xe hw]) (fun w hw=>by simp[xe hw]) rfl rfl;exact⟨n,o,J,U.1⟩
theorem LZ{s:List aq}{e:T×T}{E:List (T×T)}{s1:List aq}(h:ie s [e] (some s1)){o:aW (List aq)}(U:ie s1 E o):ie s (e::E) o:=LY (E:=[e]) h U
theorem EU{s:List aq}(ag:fu s)(aI:hg s)(E:List (T×T)):ie s E (mgu s E):=by
 induction E generalizing s with
 |nil=>rw[q8 (Gu ag aI)];exact Gu ag aI
 |cons e E bM=>
  obtain⟨n,o,_,U⟩:=F1 ag aI e.1 e.2;cases o with
  |none=>have al:ie s (e::E) none:=Gt E U;rw[q8 al];exact al
  |some s1=>have al:=LZ U (bM U.1.1 U.1.2);rw[q8 al];exact al
theorem JF{s:List aq}(ag:fu s)(aI:hg s):mgu s []=some s:=q8 (Gu ag aI)
theorem JE{s:List aq}(ag:fu s)(aI:hg s)(e:T×T)(E:List (T×T)):mgu s (e::E)=match mgu s [e]with|some s1=>mgu s1 E|none=>none:=by
 have J:=EU ag aI [e];cases h:mgu s [e]with
 |none=>rw[h]at J;have al:ie s (e::E) none:=Gt E J;exact q8 al
 |some s1=>rw[h]at J;exact q8 (LZ J (EU J.1.1 J.1.2 E))
theorem zc{s:List aq}(ag:fu s)(aI:hg s){E:List (T×T)}{ai:List aq}(h:mgu s E=some ai):fu ai∧hg ai:=by have J:=EU ag aI E;rw[h]at J;exact J.1
theorem aeD{s:List aq}(ag:fu s)(aI:hg s)(av:pA s){E:List (T×T)}(ds:∀e∈E,e.1.ok=true∧e.2.ok=true){ai:List aq}(h:mgu s E=some ai):pA ai:=by
 induction E generalizing s with
 |nil=>rw[JF ag aI]at h;cases h;exact av
 |cons e E bM=>
  rw[JE ag aI]at h;split at h
  ·rename_i s1 J;obtain⟨n,o,U,al⟩:=F1 ag aI e.1 e.2;have a6:=q8 al;rw[J]at a6;subst a6;exact bM al.1.1 al.1.2 (Lk n s e.1 e.2 s1 av (ds e (by simp)).1 (ds e (by simp)).2 U) (fun fB he=>ds fB (by simp[he])) h
  ·cases h
theorem RG{l:List Int}(aA:l.Nodup)(h:∀v∈l,0≤v∧v≤100000):l.length≤100001:=by
 have J:(l.map Int.toNat).Nodup:=by rw[List.nodup_iff_pairwise_ne,List.pairwise_map];exact akN (fun{a b} bD ae cC e=>cC (by have:=h a bD;have:=h b ae;omega)) aA
 have:=LM J (l₂:=List.range 100001) (fun x ad=>by obtain⟨v,aK,rfl⟩:=iC.1 ad;have:=h v aK;simp;omega)
 simpa using this
end Go.Pv
