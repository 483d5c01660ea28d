/- The most general unifier within the limits. -/
import Derived.Deep.LoopGhost
import Derived.Test.YtahlgcidhnjlbaaGreatY1
set_option linter.all false
set_option maxHeartbeats 4000000
open Array renaming getElem?_toList→sV
open Bool renaming and_eq_true→cA,false_eq_true→gP,or_eq_true→mB
open Decidable renaming not_not→arO
open Go renaming Program→cC,TypeId→fT
open Go.IntKind renaming bits→nJ,signed→rP,u64→hb,wrap→rQ
open Go.IntWalk renaming i64_in→oC
open Go.Op renaming bytesLess→hk
open Go.Region renaming wanted→oD
open Go.Result renaming andThen_ok→fK
open Go.Sem renaming run_bind→fF,run_pure→gp
open Go.Value renaming cells→pc
open List renaming all_eq_true→jb,cons_append→bU,drop_eq_getElem_cons→k7,getElem?_eq_getElem→cf,getElem?_eq_none→p1,getElem?_eq_some_iff→fL,length_append→pd,length_cons→p2,map_cons→gE,map_nil→pe,mem_append→kx,mem_cons→fU,mem_cons_of_mem→pf,mem_filter→nj,mem_map→h8,nil_append→bX,pairwise_cons→mC,pairwise_iff_getElem→pg
open List.Nodup renaming length_le_of_subset→MK
open List.Pairwise renaming imp_of_mem→amA,nil→arV
open List.Perm renaming eq_of_pairwise→ML
open List.cons renaming injEq→p0
open Nat renaming le_refl→eR,le_trans→j4
open Ne renaming symm→kP
open Option renaming bind_some→j5,getD_none→kQ,getD_some→ky,isSome_iff_exists→fG,isSome_none→j6,map_eq_some_iff→gF,map_some→nM
open Option.some renaming inj→fB,injEq→dG
open Prod.mk renaming injEq→jj
open _root_ renaming False→eQ,Option→aY,UInt8→dz,beq_iff_eq→dL,congrArg→e5,decide_eq_false→jH,decide_eq_false_iff_not→hE,decide_eq_true_eq→fH
namespace Go.Pv
open Go Go.RowKit
def agq(A:df)(s ai:cJ)(rm:aY aH):Prop:=(∀k,(look k ai.b).isSome→(look k s.b).isSome∨rm=some k)∧(∀k,(look k ai.e).isSome→(look k s.e).isSome∨rm=some k)∧(∀k,(look k s.b).isSome→(look k ai.b).isSome)∧(∀k,(look k s.e).isSome→(look k ai.e).isSome)∧
 (∀k,rm=some k→(∃j,k= .obj j)∧A.F k∧A.b k=none∧A.e k=none∧((look k ai.b).isSome∨(look k ai.e).isSome))
def Xh(P:cC)(n:Nat)(args:List ah)(A:df)(d:aY Nat)(x:kA):Prop:=
 ∃s ai r rm,(∀k cs,look k s.b=some cs→A.b k=some cs∧aK (inObs s) cs)∧(∀k o,look k s.e=some o→A.e k=some o∧dQ (inObs s) o)∧iH s∧iH ai∧agq A s ai rm∧aK (inObs s) args∧
  bQ P n args s (fun eF dJ=>eF=r∧dJ=ai)∧x=⟨d,r,ai.b,ai.e,rm⟩
def Xi(P:cC)(n0 n:Nat)(args:List ah)(A:df)(d:aY Nat)(x:kA):Prop:=
 ∃cG r,d=some cG∧(A.F (.loc (n0+cG))∧A.b (.loc (n0+cG))=none∧A.e (.loc (n0+cG))=none)∧aK (fun _=>eQ) args∧
  G3 P n (n0+cG) args ⟨[],[]⟩ (fun eF dJ=>eF=r∧dJ=⟨[],[]⟩)∧x=⟨d,r,[],[],some (.loc (n0+cG))⟩
def xl:ah→Bool
 | .ptr (.loc _) _=>true
 | .eptr _=>true
 |_=>false
def fO.isB:fO→Bool
 | .loadB _ _ _=>true
 | .mgetB _ _ _ _ _=>true
 |_=>false
def fO.ptrOf(t:Nat→ah):fO→ah
 | .load _ _ x=>dv t x
 | .loadB _ _ x=>dv t x
 |_=>.junk
def en(P:cC)(q:Bool)(n0:Nat):eb→df→kA→Prop
 | .s (.v d i),A,x=> ∃c p,pa A.t A.b A.e i=some (c,p)∧c∧(i.isLoad=true→i.isB=true∨q=true∨xl (i.ptrOf A.t)=true)∧x=⟨some d,p,[],[],none⟩
 | .s (.box d none v),A,x=>(A.F (.loc (n0+d))∧A.b (.loc (n0+d))=none∧A.e (.loc (n0+d))=none)∧dY (dv A.t v)=true∧x=⟨some d,.ptr (.loc (n0+d)) 0,[(.loc (n0+d),cells (dv A.t v))],[],some (.loc (n0+d))⟩
 | .s (.alloc d none z),A,x=>(A.F (.loc (n0+d))∧A.b (.loc (n0+d))=none∧A.e (.loc (n0+d))=none)∧x=⟨some d,.ptr (.loc (n0+d)) 0,[(.loc (n0+d),cells z)],[],some (.loc (n0+d))⟩
 | .s (.store sz u v),A,x=> ∃k off cs,dv A.t u= .ptr k off∧A.b k=some cs∧(hM cs=true∧dY (dv A.t v)=true∧(cells (dv A.t v)).length=sz∧off+sz≤cs.length)∧x=⟨none,.junk,[(k,nD cs off (cells (dv A.t v)))],[],none⟩
 | .s (.bsl d sz el xs),A,x=>(A.F (.loc (n0+d))∧A.b (.loc (n0+d))=none∧A.e (.loc (n0+d))=none)∧rX sz (xs.map (dv A.t))∧x=⟨some d,.slice sz (.own (.loc (n0+d))) (xs.map (dv A.t)),[],[(.loc (n0+d),⟨xs.length,el,sz,none⟩)],some (.loc (n0+d))⟩
 | .s (.app d sz el u v),A,x=> ∃tag xs kK ys,dv A.t u= .slice sz tag xs∧dv A.t v= .slice sz kK ys∧
   ((∃k o,tag= .own k∧A.e k=some o∧(o.xs=none∧o.n=xs.length∧o.el=el∧o.sz=sz∧xs.length+ys.length≤lim)∧x=⟨some d,.slice sz (.own k) (xs++ys),[],[(k,⟨xs.length+ys.length,el,sz,none⟩)],none⟩)∨
    (tag= .nil∧ys.length≤lim∧(A.F (.loc (n0+d))∧A.b (.loc (n0+d))=none∧A.e (.loc (n0+d))=none)∧x=⟨some d,.slice sz (.own (.loc (n0+d))) ys,[],[(.loc (n0+d),⟨ys.length,el,sz,none⟩)],some (.loc (n0+d))⟩))
 | .s (.appm d _ sz el u v),A,x=> ∃k n xs kK ys,dv A.t u= .row sz k n∧dv A.t v= .slice sz kK ys∧A.e k=some ⟨n,el,sz,some xs⟩∧xs.length+ys.length≤lim∧x=⟨some d,.row sz k (xs.length+ys.length),[],[(k,⟨xs.length+ys.length,el,sz,some (xs++ys)⟩)],none⟩
 | .s (.storeE sz u v),A,x=> ∃k n i f el dF xs q,dv A.t u= .rptr dF k n i f∧A.e k=some ⟨n,el,dF,some xs⟩∧xs[i]? =some q∧(dY q=true∧dY (dv A.t v)=true∧(cells (dv A.t v)).length=sz∧f+sz≤(cells q).length∧0<sz)∧x=⟨none,.junk,[],[(k,⟨n,el,dF,some (xs.set i (mx q f (cells (dv A.t v))))⟩)],none⟩
 | .s (.mkmap d (some m)),A,x=>(A.F (.obj m)∧A.b (.obj m)=none∧A.e (.obj m)=none)∧x=⟨some d,.gmap (.obj m),[(.obj m,[.hdm 0 []])],[],some (.obj m)⟩
 | .s (.mput b9 u k v),A,x=> ∃m cs cs',dv A.t u= .gmap m∧A.b m=some cs∧og b9 (dv A.t k) (dv A.t v) cs=some cs'∧x=⟨none,.junk,[(m,cs')],[],none⟩
 | .call d f xs,A,x=> ∃n dm,dv A.t f= .func n dm∧((Xh P n (cY (xs.map (dv A.t)++dm)) A d x∧(q=true→x.bw=[]∧x.ew=[]))∨Xi P n0 n (cY (xs.map (dv A.t)++dm)) A d x)
 |_,_,_=>eQ
inductive AD where
 |v|l|n|s|w|a|c|m|r|k
 deriving DecidableEq
def eb.mode:eb→AD
 | .s (.v _ (.loadB _ _ _))=>.m
 | .s (.v _ (.mgetB _ _ _ _ _))=>.m
 | .s (.v _ i)=>if i.isLoad then .l else .v
 | .s (.storeE _ _ _)=>.r
 | .s (.box _ _ _)=>.n
 | .s (.alloc _ _ _)=>.n
 | .s (.store _ _ _)=>.w
 | .s (.bsl _ _ _ _)=>.s
 | .s (.app _ _ _ _ _)=>.a
 | .s (.bslm _ _ _ _ _)=>.w
 | .s (.mks _ _ _ _ _ _)=>.w
 | .s (.appm _ _ _ _ _ _)=>.r
 | .s (.mkmap _ _)=>.k
 | .s (.mput _ _ _ _)=>.w
 | .s (.range _ _ _)=>.w
 | .call _ _ _=>.c
 | .next _ _=>.w
structure Hd (q:Bool) (n0:Nat) (m:AD) (dst:aY Nat) (A:df) (x:kA):Prop where
 d:x.d=dst
 b:∀k,(look k x.bw).isSome→(m= .n∧∃d,dst=some d∧k= .loc (n0+d)∧A.b k=none∧A.e k=none)∨m= .w∨(m= .c∧(∃j,k= .obj j)∧q=false)∨(m= .k∧(∃j,k= .obj j)∧A.b k=none∧A.e k=none)
 e:∀k,(look k x.ew).isSome→(m= .s∧∃d,dst=some d∧k= .loc (n0+d)∧A.b k=none∧A.e k=none)∨(m= .a∧(A.e k≠none∨ ∃d,dst=some d∧k= .loc (n0+d)∧A.b k=none∧A.e k=none))∨(m= .c∧(∃j,k= .obj j)∧q=false)∨(m= .r∧∃o,A.e k=some o∧o.xs≠none)
 r:∀k,x.rm=some k→(∃d,dst=some d∧k= .loc (n0+d))∨((m= .c∨m= .k)∧(∃j,k= .obj j)∧((look k x.bw).isSome∨(look k x.ew).isSome))
 ex:m= .a→∀k o,(look k x.ew).isSome→A.e k=some o→o.xs=none
 xn:m= .a∨m= .s→∀k o,look k x.ew=some o→o.xs=none
theorem sB{α:Type}{k bM:aH}{x:α}(h:(look k [(bM,x)]).isSome):k=bM:=by
 simp only[look]at h;split at h
 ·rename_i e;exact e.symm
 ·cases h
theorem Ke{k bM:aH}{n el sz:Nat}{o:fM}(h:look k [(bM,(⟨n,el,sz,none⟩:fM))]=some o):o.xs=none:=by
 simp only[look]at h;split at h
 ·cases h;rfl
 ·cases h
theorem Wg{P:cC}{q:Bool}{n0:Nat}{i:eb}{A:df}{x:kA}(h:en P q n0 i A x):Hd q n0 i.mode i.dst A x:=by
 cases i with
 |s i=>
  cases i with
  |v d i=>simp only[en]at h;obtain⟨c,p,_,_,_,rfl⟩:=h;exact⟨rfl,fun k ad=>by simp[look]at ad,fun k ad=>by simp[look]at ad,fun k ad=>by simp at ad,fun _ k o ad=>by simp[look]at ad,fun _ k o ad=>by simp[look]at ad⟩
  |box d key v=>
   cases key with
   |some m=>simp only[en]at h
   |none=>simp only[en]at h;obtain⟨⟨_,U,ao⟩,_,rfl⟩:=h;exact⟨rfl,fun k ad=>by obtain rfl:=sB ad;exact .inl ⟨rfl,d,rfl,rfl,U,ao⟩,fun k ad=>by simp[look]at ad,fun k ad=>by simp at ad;exact .inl ⟨d,rfl,ad.symm⟩,fun _ k o ad=>by simp[look]at ad,fun _ k o ad=>by simp[look]at ad⟩
  |alloc d key z=>
   cases key with
   |some m=>simp only[en]at h
   |none=>simp only[en]at h;obtain⟨⟨_,U,ao⟩,rfl⟩:=h;exact⟨rfl,fun k ad=>by obtain rfl:=sB ad;exact .inl ⟨rfl,d,rfl,rfl,U,ao⟩,fun k ad=>by simp[look]at ad,fun k ad=>by simp at ad;exact .inl ⟨d,rfl,ad.symm⟩,fun _ k o ad=>by simp[look]at ad,fun _ k o ad=>by simp[look]at ad⟩
  |store sz u v=>simp only[en]at h;obtain⟨k,off,cs,_,_,_,rfl⟩:=h;exact⟨rfl,fun k ad=>.inr (.inl rfl),fun k ad=>by simp[look]at ad,fun k ad=>by simp at ad,fun _ k o ad=>by simp[look]at ad,fun _ k o ad=>by simp[look]at ad⟩
  |bsl d sz el xs=>simp only[en]at h;obtain⟨⟨_,U,ao⟩,_,rfl⟩:=h;exact⟨rfl,fun k ad=>by simp[look]at ad,fun k ad=>by obtain rfl:=sB ad;exact .inl ⟨rfl,d,rfl,rfl,U,ao⟩,fun k ad=>by simp at ad;exact .inl ⟨d,rfl,ad.symm⟩,fun e=>by simp[eb.mode]at e,fun _ k o ad=>Ke ad⟩
  |app d sz el u v=>
   simp only[en]at h;obtain⟨tag,xs,kK,ys,_,_,h⟩:=h;rcases h with⟨k,o,_,J,⟨h4,_⟩,rfl⟩|⟨_,_,⟨_,U,ao⟩,rfl⟩
   ·exact⟨rfl,fun k ad=>by simp[look]at ad,fun k ad=>by obtain rfl:=sB ad;exact .inr (.inl ⟨rfl,.inl (by rw[J];simp)⟩),fun k ad=>by simp at ad,fun _ bM o' ad aw=>by obtain rfl:=sB ad;rw[J]at aw;cases aw;exact h4,fun _ k o ad=>Ke ad⟩
   ·exact⟨rfl,fun k ad=>by simp[look]at ad,fun k ad=>by obtain rfl:=sB ad;exact .inr (.inl ⟨rfl,.inr ⟨d,rfl,rfl,U,ao⟩⟩),fun k ad=>by simp at ad;exact .inl ⟨d,rfl,ad.symm⟩,fun _ bM o' ad aw=>(by obtain rfl:=sB ad;rw[ao]at aw;cases aw),fun _ k o ad=>Ke ad⟩
  |bslm d key sz el xs=>simp only[en]at h
  |mks d key sz el z x=>simp only[en]at h
  |appm d key sz el u v=>simp only[en]at h;obtain⟨k,n,xs,kK,ys,_,_,J,_,rfl⟩:=h;exact⟨rfl,fun k ad=>by simp[look]at ad,fun k ad=>by obtain rfl:=sB ad;exact .inr (.inr (.inr ⟨rfl,_,J,by simp⟩)),fun k ad=>by simp at ad,fun e=>by simp[eb.mode]at e,fun e=>by simp[eb.mode]at e⟩
  |storeE sz u v=>simp only[en]at h;obtain⟨k,n,i,f,el,dF,xs,q,_,J,_,_,rfl⟩:=h;exact⟨rfl,fun k ad=>by simp[look]at ad,fun k ad=>by obtain rfl:=sB ad;exact .inr (.inr (.inr ⟨rfl,_,J,by simp⟩)),fun k ad=>by simp at ad,fun e=>by simp[eb.mode]at e,fun e=>by simp[eb.mode]at e⟩
  |mkmap d key=>
   cases key with
   |none=>simp only[en]at h
   |some m=>simp only[en]at h;obtain⟨⟨_,U,ao⟩,rfl⟩:=h;exact⟨rfl,fun k ad=>by obtain rfl:=sB ad;exact .inr (.inr (.inr ⟨rfl,⟨m,rfl⟩,U,ao⟩)),fun k ad=>by simp[look]at ad,fun k ad=>by simp at ad;subst ad;exact .inr ⟨.inr rfl,⟨m,rfl⟩,.inl (by simp[look])⟩,fun e=>by simp[eb.mode]at e,fun e=>by simp[eb.mode]at e⟩
  |mput b9 x k v=>simp only[en]at h;obtain⟨m,cs,cs',_,_,_,rfl⟩:=h;exact⟨rfl,fun k ad=>.inr (.inl rfl),fun k ad=>by simp[look]at ad,fun k ad=>by simp at ad,fun e=>by simp[eb.mode]at e,fun e=>by simp[eb.mode]at e⟩
  |range d key x=>simp only[en]at h
 |next d x=>simp only[en]at h
 |call d f xs=>
  simp only[en]at h;obtain⟨n,dm,_,h⟩:=h;rcases h with⟨⟨s,ai,r,rm,_,_,_,aw,RT,_,_,rfl⟩,bo⟩|⟨cG,r,rfl,_,_,_,rfl⟩;rotate_left
  ·exact⟨rfl,fun k ad=>by simp[look]at ad,fun k ad=>by simp[look]at ad,fun k ad=>by simp at ad;exact .inl ⟨cG,rfl,ad.symm⟩,fun _ k o ad=>by simp[look]at ad,fun _ k o ad=>by simp[look]at ad⟩
  refine⟨rfl,fun k ad=>.inr (.inr (.inl ⟨rfl,?_,?_⟩)),fun k ad=>.inr (.inr (.inl ⟨rfl,?_,?_⟩)),fun k ad=>.inr ⟨.inl rfl,(RT.2.2.2.2 k ad).1,(RT.2.2.2.2 k ad).2.2.2.2⟩,fun e=>by simp[eb.mode]at e,fun e=>by simp[eb.mode]at e⟩
  ·cases k with
   |loc m=>rw[aw.1 m]at ad;cases ad
   |obj m=>exact⟨m,rfl⟩
  ·cases q with
   |false=>rfl
   |true=>rw[(bo rfl).1]at ad;simp[look]at ad
  ·cases k with
   |loc m=>rw[aw.2 m]at ad;cases ad
   |obj m=>exact⟨m,rfl⟩
  ·cases q with
   |false=>rfl
   |true=>rw[(bo rfl).2]at ad;simp[look]at ad
theorem MQ{P:cC}{q:Bool}{n0:Nat}{i:eb}{A gf:df}{x:kA}(h:en P q n0 i A x)(aN:qa i.looks A.t gf.t)
  (au:i.mode= .l→∀k,(q=true∨ ∃m,k= .loc m)→A.b k≠none→gf.b k=A.b k) (RJ:i.mode= .m→∀k,A.b k≠none→gf.b k=A.b k)
  (kW:i.mode= .l→q=true→∀k o,A.e k=some o→o.xs≠none→gf.e k=some o)
  (aA:∀d,i.dst=some d→(i.mode= .n∨i.mode= .s∨i.mode= .a∨i.mode= .c)→(A.F (.loc (n0+d))∧A.b (.loc (n0+d))=none∧A.e (.loc (n0+d))=none)→(gf.F (.loc (n0+d))∧gf.b (.loc (n0+d))=none∧gf.e (.loc (n0+d))=none))
  (bF:i.mode= .a→∀k o,A.e k=some o→gf.e k=some o) (hw:i.mode= .w→∀k,gf.b k=A.b k) (aeJ:i.mode= .k→∀m,(A.F (.obj m)∧A.b (.obj m)=none∧A.e (.obj m)=none)→(gf.F (.obj m)∧gf.b (.obj m)=none∧gf.e (.obj m)=none)) (BP:i.mode= .r→∀k o,A.e k=some o→o.xs≠none→gf.e k=some o)
  (ax:i.mode= .c→∀m,gf.b (.obj m)=A.b (.obj m)∧gf.e (.obj m)=A.e (.obj m)∧(A.F (.obj m)→gf.F (.obj m))):en P q n0 i gf x:=by
 cases i with
 |s i=>
  cases i with
  |v d i=>
   simp only[en]at h⊢;obtain⟨c,p,J,U,ao,a8⟩:=h;by_cases kD:∃agg sz y,i= .loadB agg sz y
   ·obtain⟨agg,sz,y,rfl⟩:=kD;simp only[eb.looks,ei.looks,fO.looks]at aN;have tw:=gm aN;refine⟨c,p,?_,U,fun _=>.inl rfl,a8⟩;rw[←J];simp only[pa,←tw];have hm:=RJ (by simp[eb.mode]);simp only[pa]at J;cases bJ:dv A.t y<;>simp only[rp];rename_i key off;rw[bJ]at J;simp only[rp]at J;cases ae:A.b key with
    |none=>simp[ae]at J
    |some cs=>have:gf.b key=A.b key:=hm key (by rw[ae];simp);rw[this,ae]
   by_cases En:∃b9 zero ok y z,i= .mgetB b9 zero ok y z
   ·obtain⟨b9,zero,ok,y,z,rfl⟩:=En;simp only[eb.looks,ei.looks,fO.looks]at aN;obtain⟨t1,t2⟩:=j8 aN;refine⟨c,p,?_,U,fun _=>.inl rfl,a8⟩;simp only[pa]at J⊢;rw[←gm t1,←gm t2];exact TJ (RJ (by simp[eb.mode])) J
   replace ao:i.isLoad=true→q=true∨xl (i.ptrOf A.t)=true:=fun nx=>(ao nx).resolve_left (fun ae=>by cases i<;>simp[fO.isB]at ae;exact kD ⟨_,_,_,rfl⟩;exact En ⟨_,_,_,_,_,rfl⟩);have ad1:i.isLoad=true→(eb.s (.v d i)).mode= .l:=by intro nx;cases i<;>simp only[fO.isLoad]at nx<;>first|(cases nx;done)|(simp[eb.mode,fO.isLoad];done)|exact absurd ⟨_,_,_,rfl⟩ kD|exact absurd ⟨_,_,_,_,_,rfl⟩ En
   by_cases nx:i.isLoad=true
   ·have bo:∀(bJ:xl (i.ptrOf A.t)=false),∀k,A.b k≠none→gf.b k=A.b k:=fun bJ k ad=>au (ad1 nx) k (.inl ((ao nx).resolve_right (by rw[bJ];simp))) ad;cases i<;>simp only[fO.isLoad]at nx<;>try(cases nx;done)
    case mget b9 zero ok y z=>simp only[eb.looks,ei.looks,fO.looks]at aN;obtain⟨t1,t2⟩:=j8 aN;refine⟨c,p,?_,U,fun _=>.inr (ao rfl),a8⟩;simp only[pa]at J⊢;rw[←gm t1,←gm t2];exact TJ (bo rfl) J
    case ment y=>simp only[eb.looks,ei.looks,fO.looks]at aN;refine⟨c,p,?_,U,fun _=>.inr (ao rfl),a8⟩;simp only[pa]at J⊢;rw[←gm aN];exact afU (bo rfl) J
    case mlen y=>simp only[eb.looks,ei.looks,fO.looks]at aN;refine⟨c,p,?_,U,fun _=>.inr (ao rfl),a8⟩;simp only[pa]at J⊢;rw[←gm aN];exact age (bo rfl) J
    case loadB agg sz y=>exact absurd ⟨_,_,_,rfl⟩ kD
    case mgetB=>exact absurd ⟨_,_,_,_,_,rfl⟩ En
    rename_i agg sz y;simp only[eb.looks,ei.looks,fO.looks]at aN;have tw:=gm aN;refine⟨c,p,?_,U,fun _=>.inr (by have:=ao rfl;simpa only[fO.ptrOf,←tw]using this),a8⟩;rw[←J];simp only[pa,←tw];have hm:=au (by simp[eb.mode,fO.isLoad]);simp only[pa]at J;have r8:=ao rfl;simp only[fO.ptrOf]at r8;cases bJ:dv A.t y<;>simp only[rp]
    ·rename_i key off;rw[bJ]at J r8;simp only[rp]at J;cases ae:A.b key with
     |none=>simp[ae]at J
     |some cs=>have:gf.b key=A.b key:=hm key (by rcases r8 with h|h;exact .inl h;cases key;exact .inr ⟨_,rfl⟩;simp[xl]at h) (by rw[ae];simp);rw[this,ae]
    ·rename_i dF key n i f;rw[bJ]at J r8;simp only[rp]at J;have aej:q=true:=r8.resolve_right (by simp[xl]);unfold xW at J;split at J
     ·rename_i n' el ja xs he;rw[he,kW (by simp[eb.mode,fO.isLoad]) aej key _ he (by simp)]
     ·cases J
   ·have nx:i.isLoad=false:=by simpa using nx
    refine⟨c,p,?_,U,(fun e=>by rw[nx]at e;cases e),a8⟩;rw[←J];exact(akW (by simpa only[eb.looks,ei.looks]using aN) nx).symm
  |box d key v=>
   cases key with
   |some m=>simp only[en]at h
   |none=>simp only[en,eb.looks,ei.looks]at h aN⊢;obtain⟨J,U,ao⟩:=h;rw[←gm aN];exact⟨aA d rfl (.inl rfl) J,U,ao⟩
  |alloc d key z=>
   cases key with
   |some m=>simp only[en]at h
   |none=>simp only[en]at h⊢;exact⟨aA d rfl (.inl rfl) h.1,h.2⟩
  |store sz u v=>simp only[en,eb.looks,ei.looks]at h aN⊢;obtain⟨J,U⟩:=j8 aN;rw[←gm J,←gm U];obtain⟨k,off,cs,g1,g2,g3,g4⟩:=h;exact⟨k,off,cs,g1,by rw[hw rfl];exact g2,g3,g4⟩
  |bsl d sz el xs=>simp only[en,eb.looks,ei.looks]at h aN⊢;rw[←Fs aN];exact⟨aA d rfl (.inr (.inl rfl)) h.1,h.2⟩
  |app d sz el u v=>
   simp only[en,eb.looks,ei.looks]at h aN⊢;obtain⟨J,U⟩:=j8 aN;rw[←gm J,←gm U];obtain⟨tag,xs,kK,ys,g1,g2,h⟩:=h;refine⟨tag,xs,kK,ys,g1,g2,?_⟩;rcases h with⟨k,o,ak,aB,bj⟩|⟨ak,aB,bj,de⟩
   ·exact .inl ⟨k,o,ak,bF rfl k o aB,bj⟩
   ·exact .inr ⟨ak,aB,aA d rfl (.inr (.inr (.inl rfl))) bj,de⟩
  |bslm d key sz el xs=>simp only[en]at h
  |mks d key sz el z x=>simp only[en]at h
  |appm d key sz el u v=>simp only[en,eb.looks,ei.looks]at h aN⊢;obtain⟨J,U⟩:=j8 aN;rw[←gm J,←gm U];obtain⟨k,n,xs,kK,ys,g1,g2,g3,g4,g5⟩:=h;exact⟨k,n,xs,kK,ys,g1,g2,BP rfl k _ g3 (by simp),g4,g5⟩
  |storeE sz u v=>simp only[en,eb.looks,ei.looks]at h aN⊢;obtain⟨J,U⟩:=j8 aN;rw[←gm J,←gm U];obtain⟨k,n,i,f,el,dF,xs,q,g1,g2,g3⟩:=h;exact⟨k,n,i,f,el,dF,xs,q,g1,BP rfl k _ g2 (by simp),g3⟩
  |mkmap d key=>
   cases key with
   |none=>simp only[en]at h
   |some m=>simp only[en]at h⊢;exact⟨aeJ rfl m h.1,h.2⟩
  |mput b9 u k v=>simp only[en,eb.looks,ei.looks]at h aN⊢;obtain⟨t1,t3⟩:=j8 aN;obtain⟨t1,t2⟩:=j8 t1;obtain⟨m,cs,cs',g1,g2,g3,g4⟩:=h;rw[←gm t1,←gm t2,←gm t3];exact⟨m,cs,cs',g1,by rw[hw rfl];exact g2,g3,g4⟩
  |range d key x=>simp only[en]at h
 |next d x=>simp only[en]at h
 |call d f xs=>
  simp only[en,eb.looks]at h aN⊢;obtain⟨J,U⟩:=j8 aN;rw[←gm J,←Fs U];obtain⟨n,dm,g1,h⟩:=h;rcases h with⟨⟨s,ai,r,rm,bI,ch,dc,ie,lL,oL⟩,g3⟩|⟨cG,r,rfl,bI,ch⟩;rotate_left
  ·exact⟨n,dm,g1,.inr ⟨cG,r,rfl,aA cG rfl (.inr (.inr (.inr rfl))) bI,ch⟩⟩
  refine⟨n,dm,g1,.inl ⟨⟨s,ai,r,rm,fun k cs ad=>?_,fun k o ad=>?_,dc,ie,⟨lL.1,lL.2.1,lL.2.2.1,lL.2.2.2.1,fun k ad=>?_⟩,oL⟩,g3⟩⟩
  ·cases k with
   |loc m=>rw[dc.1 m]at ad;cases ad
   |obj m=>rw[(ax rfl m).1];exact bI _ _ ad
  ·cases k with
   |loc m=>rw[dc.2 m]at ad;cases ad
   |obj m=>rw[(ax rfl m).2.1];exact ch _ _ ad
  ·obtain⟨⟨j,rfl⟩,d2,d3,d4,d5⟩:=lL.2.2.2.2 k ad;exact⟨⟨j,rfl⟩,(ax rfl j).2.2 d2,by rw[(ax rfl j).1];exact d3,by rw[(ax rfl j).2.1];exact d4,d5⟩
def k4(d:aY Nat):kA:=⟨d,.tuple [],[],[],none⟩
def kB(P:cC)(q:Bool)(n0:Nat)(g:c2)(A:df)(x:kA):Prop:=
 match g.g with
 |none=>en P q n0 g.i A x
 |some (s,w)=>match A.t s with
  | .bool b=>(b=w∧en P q n0 g.i A x)∨(b= !w∧x=k4 g.i.dst)
  | .tuple []=>x=k4 g.i.dst
  |_=>eQ
def e3:AD→AD→Bool
 | .v,_=>true
 |_,.v=>true
 | .l,.l| .l,.n| .l,.s| .l,.a| .l,.c=>true
 | .n,.n| .n,.s| .n,.a| .n,.c=>true
 | .s,.l| .s,.n| .s,.s| .s,.c=>true
 | .a,.l| .a,.n| .a,.s=>true
 | .c,.l| .c,.n| .c,.s=>true
 | .l,.m| .m,.l| .m,.m| .m,.n| .m,.s| .m,.a| .s,.m| .a,.m=>true
 | .l,.k| .m,.k| .n,.k| .s,.k=>true
 | .m,.r| .r,.m| .r,.n| .r,.s| .n,.r| .s,.r| .r,.w| .w,.r=>true
 |_,_=>false
def yK(g h:c2):Bool:=(match g.i.dst with|some d=> !(h.looks.contains d)&&h.i.dst !=some d|none=>true)&&(match h.i.dst with|some d=> !(g.looks.contains d)|none=>true)&&e3 g.i.mode h.i.mode
theorem Wh(q:Bool)(n0:Nat)(m:AD)(d:aY Nat)(A:df):Hd q n0 m d A (k4 d):=⟨rfl,fun k ad=>by simp[k4,look]at ad,fun k ad=>by simp[k4,look]at ad,fun k ad=>by simp[k4]at ad,fun _ k o ad=>by simp[k4,look]at ad,fun _ k o ad=>by simp[k4,look]at ad⟩
theorem Mf{P:cC}{q:Bool}{n0:Nat}{g:c2}{A:df}{x:kA}(h:kB P q n0 g A x):Hd q n0 g.i.mode g.i.dst A x:=by
 unfold kB at h;split at h
 ·exact Wg h
 ·split at h
  ·rcases h with⟨_,h⟩|⟨_,rfl⟩
   ·exact Wg h
   ·exact Wh _ _ _ _ _
  ·subst h;exact Wh _ _ _ _ _
  ·exact h.elim
theorem r3{A:df}{x:kA}{k:aH}(h:look k x.bw=none):(A.do x).b k=A.b k:=by simp[df.do,ig,h]
theorem r4{A:df}{x:kA}{k:aH}(h:look k x.ew=none):(A.do x).e k=A.e k:=by simp[df.do,ig,h]
theorem H0{A:df}{x:kA}{k:aH}(h:(A.do x).b k=none):A.b k=none:=by
 simp only[df.do,ig]at h;split at h
 ·cases h
 ·exact h
theorem H2{A:df}{x:kA}{k:aH}(h:(A.do x).e k=none):A.e k=none:=by
 simp only[df.do,ig]at h;split at h
 ·cases h
 ·exact h
theorem lx{α:Type}{o:aY α}(h:¬o.isSome):o=none:=by cases o<;>simp at h⊢
theorem MS{P:cC}{q:Bool}{n0:Nat}{g:c2}{A gf:df}{x:kA}(h:kB P q n0 g A x)(aN:qa g.looks A.t gf.t)(hm:en P q n0 g.i A x→en P q n0 g.i gf x):kB P q n0 g gf x:=by
 unfold kB at h⊢;cases a7:g.g with
 |none=>simp only[a7]at h⊢;exact hm h
 |some x5=>
  obtain⟨s,w⟩:=x5;have:A.t s=gf.t s:=aN s (by simp[c2.looks,a7]);simp only[a7,this]at h⊢;split at h
  ·rcases h with⟨J,U⟩|h
   ·exact .inl ⟨J,hm U⟩
   ·exact .inr h
  ·exact h
  ·exact h
theorem swap{P:cC}{q:Bool}{n0:Nat}{g h:c2}(RA:yK g h=true){A:df}{x y:kA}(ab:kB P q n0 g A x)(aG:kB P q n0 h (A.do x) y):
  kB P q n0 h A y∧kB P q n0 g (A.do y) x∧x.apart y:=by
 simp only[yK,cA]at RA;obtain⟨⟨fk,eI⟩,hm⟩:=RA;have x6:=Mf ab;have cF:∀d b8,g.i.dst=some d→h.i.dst=some b8→d≠b8:=by intro d b8 ak aB e;simp only[ak,cA,bne_iff_ne]at fk;exact fk.2 (by rw[aB,e])
 have Ep:qa h.looks (A.do x).t A.t:=by intro i hi;simp only[df.do];rw[if_neg];intro e;rw[x6.d]at e;simp only[e,cA,Bool.not_eq_true',List.contains_eq_mem,hE]at fk;exact fk.1 hi
 have qo:∀k,(look k x.bw).isSome→_:=x6.b;have hle:∀k,(look k x.ew).isSome→_:=x6.e;have SQ:kB P q n0 h A y:=by
  refine MS aG Ep fun kf=>MQ kf (fun i hi=>Ep i (by simp[c2.looks,hi])) (fun e k ad ae=>?_) (fun e k ae=>?_) (fun e bo k o aw h4=>?_) (fun d aQ RQ lj=>?_) (fun e k o aw=>?_) (fun e k=>?_) (fun e m lj=>⟨lj.1.1,H0 lj.2.1,H2 lj.2.2⟩) (fun e k o aw h4=>?_) (fun e m=>?_)
  ·rw[r3 (lx fun ag=>?_)];rcases qo k ag with⟨ak,_⟩|ak|⟨ak,⟨j,aB⟩,bj⟩|⟨ak,_⟩;rotate_left 3
   ·rw[e,ak]at hm;simp[e3]at hm
   ·rw[e,ak]at hm;simp[e3]at hm
   ·rw[e,ak]at hm;simp[e3]at hm
   ·rcases ad with ad|⟨m,ad⟩
    ·rw[ad]at bj;cases bj
    ·rw[ad]at aB;cases aB
  ·rw[r3 (lx fun ag=>?_)];rcases qo k ag with⟨ak,_⟩|ak|⟨ak,_⟩|⟨ak,_⟩<;>(rw[e,ak]at hm;simp[e3]at hm)
  ·rw[e]at hm;cases hU:look k x.ew with
   |none=>rw[r4 hU]at aw;exact aw
   |some o'=>
    exfalso;have Jo:(A.do x).e k=some o':=by simp[df.do,ig,hU]
    rw[Jo]at aw;cases aw;rcases hle k (by simp[hU])with⟨ak,_⟩|⟨ak,_⟩|⟨ak,_,bj⟩|⟨ak,_⟩
    ·exact h4 (x6.xn (.inr ak) k _ hU)
    ·exact h4 (x6.xn (.inl ak) k _ hU)
    ·rw[bo]at bj;cases bj
    ·rw[ak]at hm;simp[e3]at hm
  ·exact⟨lj.1.1,H0 lj.2.1,H2 lj.2.2⟩
  ·rw[r4 (lx fun ag=>?_)]at aw
   ·exact aw
   ·rw[e]at hm;rcases hle k ag with⟨ak,_⟩|⟨ak,_⟩|⟨ak,_⟩|⟨ak,_⟩<;>(rw[ak]at hm;simp[e3]at hm)
  ·rw[r3 (lx fun ag=>?_)];rw[e]at hm;rcases qo k ag with⟨ak,_⟩|ak|⟨ak,_⟩|⟨ak,_⟩<;>(rw[ak]at hm;simp[e3]at hm)
  ·rw[e]at hm;cases hU:look k x.ew with
   |none=>rw[r4 hU]at aw;exact aw
   |some o'=>
    exfalso;have Jo:(A.do x).e k=some o':=by simp[df.do,ig,hU]
    rw[Jo]at aw;cases aw;rcases hle k (by simp[hU])with⟨ak,_⟩|⟨ak,_⟩|⟨ak,_⟩|⟨ak,_⟩
    ·exact h4 (x6.xn (.inr ak) k _ hU)
    ·rw[ak]at hm;simp[e3]at hm
    ·rw[ak]at hm;simp[e3]at hm
    ·rw[ak]at hm;simp[e3]at hm
  ·rw[e]at hm;refine⟨?_,?_,fun gg=>gg.1⟩
   ·rw[r3 (lx fun ag=>?_)];rcases qo _ ag with⟨ak,d,_,aB,_⟩|ak|⟨ak,_⟩|⟨ak,_⟩;rotate_left 3
    ·rw[ak]at hm;simp[e3]at hm
    ·cases aB
    ·rw[ak]at hm;simp[e3]at hm
    ·rw[ak]at hm;simp[e3]at hm
   ·rw[r4 (lx fun ag=>?_)];rcases hle _ ag with⟨ak,d,_,aB,_⟩|⟨ak,_⟩|⟨ak,_⟩|⟨ak,_⟩
    ·cases aB
    ·rw[ak]at hm;simp[e3]at hm
    ·rw[ak]at hm;simp[e3]at hm
    ·rw[ak]at hm;simp[e3]at hm
 have ty:=Mf SQ;have Rh:qa g.looks A.t (A.do y).t:=by intro i hi;simp only[df.do];rw[if_neg];intro e;rw[ty.d]at e;simp only[e,Bool.not_eq_true',List.contains_eq_mem,hE]at eI;exact eI hi
 refine⟨SQ,?_,?_⟩
 ·refine MS ab Rh fun kf=>MQ kf (fun i hi=>Rh i (by simp[c2.looks,hi])) (fun e k ad ae=>?_) (fun e k ae=>?_) (fun e bo k o aw h4=>?_) (fun d aQ RQ lj=>?_) (fun e k o aw=>?_) (fun e k=>?_) (fun e m lj=>?_) (fun e k o aw h4=>?_) (fun e m=>?_)
  ·refine r3 (lx fun ag=>?_);rcases ty.b k ag with⟨ak,d,_,_,aB,_⟩|ak|⟨ak,⟨j,aB⟩,bj⟩|⟨_,_,aB,_⟩;rotate_left 3
   ·exact ae aB
   ·exact ae aB
   ·rw[e,ak]at hm;simp[e3]at hm
   ·rcases ad with ad|⟨m,ad⟩
    ·rw[ad]at bj;cases bj
    ·rw[ad]at aB;cases aB
  ·refine r3 (lx fun ag=>?_);rcases ty.b k ag with⟨ak,d,_,_,aB,_⟩|ak|⟨ak,_⟩|⟨_,_,aB,_⟩;rotate_left 3
   ·exact ae aB
   ·exact ae aB
   ·rw[e,ak]at hm;simp[e3]at hm
   ·rw[e,ak]at hm;simp[e3]at hm
  ·rw[r4 (lx fun ag=>?_)]
   ·exact aw
   ·rcases ty.e k ag with⟨ak,d,_,_,_,aB⟩|⟨ak,aB⟩|⟨ak,_,bj⟩|⟨ak,_⟩
    ·rw[aB]at aw;cases aw
    ·exact h4 (ty.ex ak k o ag aw)
    ·rw[bo]at bj;cases bj
    ·rw[e,ak]at hm;simp[e3]at hm
  ·refine⟨⟨lj.1,fun qi=>?_⟩,?_,?_⟩
   ·rcases ty.r _ qi with⟨b8,ak,aB⟩|⟨_,⟨j,aB⟩,_⟩
    ·simp only[aH.loc.injEq]at aB;exact cF d b8 aQ ak (by omega)
    ·cases aB
   ·rw[r3 (lx fun ag=>?_)]
    ·exact lj.2.1
    ·rcases ty.b _ ag with⟨ak,b8,aB,bj,_⟩|ak|⟨ak,⟨j,aB⟩,_⟩|⟨ak,⟨j,aB⟩,_⟩;rotate_left 3
     ·cases aB
     ·simp only[aH.loc.injEq]at bj;exact cF d b8 aQ aB (by omega)
     ·rcases RQ with aB|aB|aB|aB<;>(rw[ak,aB]at hm;simp[e3]at hm)
     ·cases aB
   ·rw[r4 (lx fun ag=>?_)]
    ·exact lj.2.2
    ·rcases ty.e _ ag with⟨ak,b8,aB,bj,_⟩|⟨ak,aB⟩|⟨ak,⟨j,aB⟩,_⟩|⟨ak,o,aB,_⟩
     ·simp only[aH.loc.injEq]at bj;exact cF d b8 aQ aB (by omega)
     ·rcases aB with aB|⟨b8,aB,bj,_⟩
      ·exact aB lj.2.2
      ·simp only[aH.loc.injEq]at bj;exact cF d b8 aQ aB (by omega)
     ·cases aB
     ·rw[lj.2.2]at aB;cases aB
  ·rw[r4 (lx fun ag=>?_)]
   ·exact aw
   ·rw[e]at hm;rcases ty.e k ag with⟨ak,d,_,_,_,aB⟩|⟨ak,_⟩|⟨ak,_⟩|⟨ak,_⟩
    ·rw[aB]at aw;cases aw
    ·rw[ak]at hm;simp[e3]at hm
    ·rw[ak]at hm;simp[e3]at hm
    ·rw[ak]at hm;simp[e3]at hm
  ·refine r3 (lx fun ag=>?_);rw[e]at hm;rcases ty.b k ag with⟨ak,_⟩|ak|⟨ak,_⟩|⟨ak,_⟩<;>(rw[ak]at hm;simp[e3]at hm)
  ·rw[e]at hm;refine⟨⟨lj.1,fun qi=>?_⟩,?_,?_⟩
   ·rcases ty.r _ qi with⟨b8,ak,aB⟩|⟨ak|ak,_⟩
    ·cases aB
    ·rw[ak]at hm;simp[e3]at hm
    ·rw[ak]at hm;simp[e3]at hm
   ·rw[r3 (lx fun ag=>?_)]
    ·exact lj.2.1
    ·rcases ty.b _ ag with⟨ak,_⟩|ak|⟨ak,_⟩|⟨ak,_⟩<;>(rw[ak]at hm;simp[e3]at hm)
   ·rw[r4 (lx fun ag=>?_)]
    ·exact lj.2.2
    ·rcases ty.e _ ag with⟨ak,_⟩|⟨ak,_⟩|⟨ak,_⟩|⟨ak,o,aB,_⟩
     ·rw[ak]at hm;simp[e3]at hm
     ·rw[ak]at hm;simp[e3]at hm
     ·rw[ak]at hm;simp[e3]at hm
     ·rw[lj.2.2]at aB;cases aB
  ·rw[r4 (lx fun ag=>?_)]
   ·exact aw
   ·rw[e]at hm;rcases ty.e k ag with⟨ak,d,_,_,_,aB⟩|⟨ak,_⟩|⟨ak,_⟩|⟨ak,_⟩
    ·rw[aB]at aw;cases aw
    ·rw[ak]at hm;simp[e3]at hm
    ·rw[ak]at hm;simp[e3]at hm
    ·rw[ak]at hm;simp[e3]at hm
  ·rw[e]at hm;refine⟨?_,?_,fun gg=>⟨gg,fun qi=>?_⟩⟩;rotate_left 2
   ·rcases ty.r _ qi with⟨b8,_,aB⟩|⟨aB|aB,_⟩
    ·cases aB
    ·rw[aB]at hm;simp[e3]at hm
    ·rw[aB]at hm;simp[e3]at hm
   ·refine r3 (lx fun ag=>?_);rcases ty.b _ ag with⟨ak,d,_,aB,_⟩|ak|⟨ak,_⟩|⟨ak,_⟩;rotate_left 3
    ·rw[ak]at hm;simp[e3]at hm
    ·cases aB
    ·rw[ak]at hm;simp[e3]at hm
    ·rw[ak]at hm;simp[e3]at hm
   ·refine r4 (lx fun ag=>?_);rcases ty.e _ ag with⟨ak,d,_,aB,_⟩|⟨ak,_⟩|⟨ak,_⟩|⟨ak,_⟩
    ·cases aB
    ·rw[ak]at hm;simp[e3]at hm
    ·rw[ak]at hm;simp[e3]at hm
    ·rw[ak]at hm;simp[e3]at hm
 ·refine⟨fun i hi e=>?_,fun k ad=>lx fun ag=>?_,fun k ad=>lx fun ag=>?_⟩
  ·rw[x6.d]at hi;rw[ty.d]at e;exact cF i i hi e rfl
  ·rcases qo k ad with⟨bE,d,a2,a3,_⟩|bE|⟨bE,⟨j,a2⟩,_⟩|⟨bE,_⟩<;>rcases ty.b k ag with⟨cc,b8,b4,fD,_⟩|cc|⟨cc,⟨dA,b4⟩,_⟩|⟨cc,⟨dA,b4⟩,_⟩;all_goals first|(rw[bE,cc]at hm;simp[e3]at hm;done)|skip
   ·rw[a3]at fD;simp only[aH.loc.injEq]at fD;exact cF d b8 a2 b4 (by omega)
   ·rw[a3]at b4;cases b4
   ·rw[a3]at b4;cases b4
   ·rw[a2]at fD;cases fD
  ·rcases hle k ad with⟨bE,d,a2,a3,_,a4⟩|⟨bE,a2⟩|⟨bE,⟨j,a2⟩,_⟩|⟨bE,gK,a2,_⟩<;>rcases ty.e k ag with⟨cc,b8,b4,fD,_,nS⟩|⟨cc,b4⟩|⟨cc,⟨dA,b4⟩,_⟩|⟨cc,gB,b4,_⟩
   ·rw[a3]at fD;simp only[aH.loc.injEq]at fD;exact cF d b8 a2 b4 (by omega)
   ·rw[bE,cc]at hm;simp[e3]at hm
   ·rw[a3]at b4;cases b4
   ·rw[a4]at b4;cases b4
   ·rcases a2 with a2|⟨d,a2,a3,_⟩
    ·exact a2 nS
    ·rw[a3]at fD;simp only[aH.loc.injEq]at fD;exact cF d b8 a2 b4 (by omega)
   ·rw[bE,cc]at hm;simp[e3]at hm
   ·rw[bE,cc]at hm;simp[e3]at hm
   ·rw[bE,cc]at hm;simp[e3]at hm
   ·rw[a2]at fD;cases fD
   ·rw[bE,cc]at hm;simp[e3]at hm
   ·rw[bE,cc]at hm;simp[e3]at hm
   ·rw[bE,cc]at hm;simp[e3]at hm
   ·rw[nS]at a2;cases a2
   ·rw[bE,cc]at hm;simp[e3]at hm
   ·rw[bE,cc]at hm;simp[e3]at hm
   ·rw[bE,cc]at hm;simp[e3]at hm
def wk(C:fa)(A:df)(a:Act)(w:World):Prop:= ∃st ν,k8 st A∧(∀k,A.F k→fresh st.n st.o k)∧cP C st a w ν
theorem Kb{st:bq}{A:df}(h:k8 st A)(d:Nat)(p:ah):k8 {st with t:=put d p st.t} (A.do ⟨some d,p,[],[],none⟩):=by
 refine⟨fun i=>?_,fun k=>?_,fun k=>?_⟩
 ·simp only[df.do,oU,dG,h.t]
 ·simpa[df.do,ig,look]using h.b k
 ·simpa[df.do,ig,look]using h.e k
theorem Tt{st:bq}{A:df}(h:k8 st A)(d:Nat)(p:ah)(o':List aH)(rm:aY aH):k8 {st with t:=put d p st.t,o:=o'} (A.do ⟨some d,p,[],[],rm⟩):=by have:=Kb h d p;exact⟨this.t,this.b,this.e⟩
theorem W6{α:Type}{β:Type}:∀l:List (aH×α),cv ([]:List (aH×β)) l=l
 |[]=>rfl
 |(k,x)::r=>by simp[cv,look,W6 r]
theorem zv{st:bq}{A:df}(h:k8 st A)(d:Nat)(p:ah)(κ:aH)(cs:List ah)(n':Nat)(o':List aH)(rm:aY aH):k8 ⟨put d p st.t,cx κ cs st.b,st.e,n',o'⟩ (A.do ⟨some d,p,[(κ,cs)],[],rm⟩):=by
 refine⟨fun i=>?_,fun k=>?_,fun k=>?_⟩
 ·simp only[df.do,oU,dG,h.t]
 ·simp only[df.do,ig,look,iG,h.b];by_cases e:κ=k<;>simp[e]
 ·simpa[df.do,ig,look]using h.e k
theorem Fl{st:bq}{A:df}(h:k8 st A)(κ:aH)(cs:List ah)(p:ah):k8 {st with b:=cx κ cs st.b} (A.do ⟨none,p,[(κ,cs)],[],none⟩):=by
 refine⟨fun i=>?_,fun k=>?_,fun k=>?_⟩
 ·simpa[df.do]using h.t i
 ·simp only[df.do,ig,look,iG,h.b];by_cases e:κ=k<;>simp[e]
 ·simpa[df.do,ig,look]using h.e k
theorem vu{st:bq}{A:df}(h:k8 st A)(d:Nat)(p:ah)(κ:aH)(o:fM)(n':Nat)(o':List aH)(rm:aY aH):k8 ⟨put d p st.t,st.b,cx κ o st.e,n',o'⟩ (A.do ⟨some d,p,[],[(κ,o)],rm⟩):=by
 refine⟨fun i=>?_,fun k=>?_,fun k=>?_⟩
 ·simp only[df.do,oU,dG,h.t]
 ·simpa[df.do,ig,look]using h.b k
 ·simp only[df.do,ig,look,iG,h.e];by_cases e:κ=k<;>simp[e]
theorem Ts{st:bq}{A:df}(h:k8 st A)(κ:aH)(o:fM)(p:ah):k8 {st with e:=cx κ o st.e} (A.do ⟨none,p,[],[(κ,o)],none⟩):=by
 refine⟨fun i=>?_,fun k=>?_,fun k=>?_⟩
 ·simpa[df.do]using h.t i
 ·simpa[df.do,ig,look]using h.b k
 ·simp only[df.do,ig,look,iG];by_cases e:κ=k<;>simp[e,h.e]
theorem Kq{α:Type}{k:aH}:∀{l:List (aH×α)},k∈l.map (·.1)→(look k l).isSome
 |[],h=>by simp at h
 |(i,x)::r,h=>by
  simp only[look];split
  ·rfl
  ·rename_i e;simp only[gE,fU]at h;rcases h with h|h
   ·exact absurd h.symm e
   ·exact Kq h
theorem uU{n:Nat}{o:List aH}{κ:aH}:∀j,fresh n (κ::o) j→fresh n o j∧j≠κ:=by intro j af;simp only[fresh,fU,not_or]at af⊢;exact⟨⟨af.1,af.2.2⟩,af.2.1⟩
theorem ab8{n:Nat}{o:List aH}{κ j:aH}(h:fresh n o j)(af:some κ≠some j):fresh n (κ::o) j:=by simp only[fresh,fU,not_or]at h⊢;exact⟨h.1,fun e=>af (by rw[e]),h.2⟩
theorem MR{P:cC}{bB:List (Nat×dB)}(aN:fN P bB=true){C:fa}{q:Bool}{n0:Nat}{i:eb}{o:Oper}(aw:ud C.N bB i o=true){A:df}{x:kA}(ab:en P q n0 i A x){a:Act}{w:World}(aL:wk C A a w)
  {K:Act→World→Prop} {Q:Exit→Act→World→Prop} (c9:∀bn w',wk C (A.do x) bn w'→K bn w'):o.wp P a w K Q:=by
 obtain⟨st,ν,au,gg,aL⟩:=aL;have wP:∀(t:List (Nat×ah)) (b:List (aH×List ah)) (e:List (aH×fM)) (d:aY Nat) (p:ah) (bw:List (aH×List ah)) (ew:List (aH×fM)),∀k,(A.do ⟨d,p,bw,ew,none⟩).F k→fresh st.n st.o k:=fun t b e d p bw ew k ad=>gg k ad.1;have mL:∀(d:aY Nat) (p:ah) (bw:List (aH×List ah)) (ew:List (aH×fM)) (κ:aH),∀k,(A.do ⟨d,p,bw,ew,some κ⟩).F k→fresh st.n (κ::st.o) k:=fun d p bw ew κ k ad=>ab8 (gg k ad.1) ad.2;cases i with
 |s i=>
  have hI:CU C.N bB i o=true:=by simpa only[ud]using aw
  cases i with
  |v d i=>simp only[en]at ab;obtain⟨c,p,J,U,_,rfl⟩:=ab;rw[←Wn au]at J;refine jD (κ:= .loc 0) (n':=0) (o₁:=[]) aN aL hI (fun h=>by simp[ei.makes]at h) (fun h=>by simp[ei.makes]at h) (st':={st with t:=put d p st.t}) (by simp only[eA,J]) U fun bn w' bp cr=>c9 _ _ ⟨_,bp,Kb au d p,fun k ad=>gg k ad.1,cr⟩
  |box d key v=>
   cases key with
   |some m=>simp only[en]at ab
   |none=>simp only[en]at ab;obtain⟨⟨J,_⟩,U,rfl⟩:=ab;rw[←iA au]at U;refine jD (κ:= .loc (n0+d)) (n':=st.n) (o₁:= .loc (n0+d)::st.o) aN aL hI (fun _=>gg _ J) (fun _=>uU) (st':=⟨put d (.ptr (.loc (n0+d)) 0) st.t,cx (.loc (n0+d)) (cells (ck st.t v)) st.b,st.e,st.n,.loc (n0+d)::st.o⟩) (by simp only[eA]) U fun bn w' bp cr=>c9 _ _ ⟨_,bp,?_,mL _ _ _ _ _,cr⟩;rw[iA au];exact zv au d _ _ _ _ _ _
  |alloc d key z=>
   cases key with
   |some m=>simp only[en]at ab
   |none=>simp only[en]at ab;obtain⟨⟨J,_⟩,rfl⟩:=ab;refine jD (κ:= .loc (n0+d)) (n':=st.n) (o₁:= .loc (n0+d)::st.o) aN aL hI (fun _=>gg _ J) (fun _=>uU) (st':=⟨put d (.ptr (.loc (n0+d)) 0) st.t,cx (.loc (n0+d)) (cells z) st.b,st.e,st.n,.loc (n0+d)::st.o⟩) (by simp only[eA]) trivial fun bn w' bp cr=>c9 _ _ ⟨_,bp,zv au d _ _ _ _ _ _,mL _ _ _ _ _,cr⟩
  |store sz u v=>simp only[en]at ab;obtain⟨k,off,cs,J,U,ao,rfl⟩:=ab;rw[←iA au]at J ao;rw[←au.b]at U;refine jD (κ:= .loc 0) (n':=0) (o₁:=[]) aN aL hI (fun h=>by simp[ei.makes]at h) (fun h=>by simp[ei.makes]at h) (st':={st with b:=cx k (nD cs off (cells (ck st.t v))) st.b}) (by simp only[eA,J,U]) ao fun bn w' bp cr=>c9 _ _ ⟨{st with b:=cx k (nD cs off (cells (ck st.t v))) st.b},bp,by rw[iA au];exact Fl au k _ _,fun k ad=>gg k ad.1,cr⟩
  |bsl d sz el xs=>simp only[en]at ab;obtain⟨⟨J,_⟩,U,rfl⟩:=ab;rw[←tl au]at U;refine jD (κ:= .loc (n0+d)) (n':=st.n) (o₁:= .loc (n0+d)::st.o) aN aL hI (fun _=>gg _ J) (fun _=>uU) (st':=⟨put d (.slice sz (.own (.loc (n0+d))) (xs.map (ck st.t))) st.t,st.b,cx (.loc (n0+d)) ⟨xs.length,el,sz,none⟩ st.e,st.n,.loc (n0+d)::st.o⟩) (by simp only[eA]) U fun bn w' bp cr=>c9 _ _ ⟨_,bp,?_,mL _ _ _ _ _,cr⟩;rw[tl au];exact vu au d _ _ _ _ _ _
  |app d sz el u v=>
   simp only[en]at ab;obtain⟨tag,xs,kK,ys,J,U,ab⟩:=ab;rw[←iA au]at J U;rcases ab with⟨k,ow,rfl,ao,a8,rfl⟩|⟨rfl,ao,⟨a8,_⟩,rfl⟩
   ·rw[←au.e]at ao;refine jD (κ:= .loc 0) (n':=0) (o₁:=[]) aN aL hI (fun h=>by simp[ei.makes,J]at h) (fun h=>by simp[ei.makes,J]at h) (st':=⟨put d (.slice sz (.own k) (xs++ys)) st.t,st.b,cx k ⟨xs.length+ys.length,el,sz,none⟩ st.e,st.n,st.o⟩) (by simp only[eA,J,U,ao,and_self,if_true]) a8.2 fun bn w' bp cr=>c9 _ _ ⟨_,bp,vu au d _ _ _ _ _ _,fun k ad=>gg k ad.1,cr⟩
   ·refine jD (κ:= .loc (n0+d)) (n':=st.n) (o₁:= .loc (n0+d)::st.o) aN aL hI (fun _=>gg _ a8) (fun _=>uU) (st':=⟨put d (.slice sz (.own (.loc (n0+d))) ys) st.t,st.b,cx (.loc (n0+d)) ⟨ys.length,el,sz,none⟩ st.e,st.n,.loc (n0+d)::st.o⟩) (by simp only[eA,J,U,and_self,if_true]) ao fun bn w' bp cr=>c9 _ _ ⟨_,bp,vu au d _ _ _ _ _ _,mL _ _ _ _ _,cr⟩
  |bslm d key sz el xs=>simp only[en]at ab
  |mks d key sz el z x=>simp only[en]at ab
  |appm d key sz el u v=>simp only[en]at ab;obtain⟨k,n,xs,kK,ys,J,U,ao,a8,rfl⟩:=ab;rw[←iA au]at J U;rw[←au.e]at ao;refine jD (κ:= .loc 0) (n':=0) (o₁:=[]) aN aL hI (fun h=>by simp[ei.makes,J]at h) (fun h=>by simp[ei.makes,J]at h) (st':=⟨put d (.row sz k (xs.length+ys.length)) st.t,st.b,cx k ⟨xs.length+ys.length,el,sz,some (xs++ys)⟩ st.e,st.n,st.o⟩) (by simp only[eA,rY,J,U,ao,and_self,if_true]) a8 fun bn w' bp cr=>c9 _ _ ⟨_,bp,vu au d _ _ _ _ _ _,fun k ad=>gg k ad.1,cr⟩
  |storeE sz u v=>simp only[en]at ab;obtain⟨k,n,i,f,el,dF,xs,q,J,U,ao,a8,rfl⟩:=ab;rw[←iA au]at J a8;rw[←au.e]at U;refine jD (κ:= .loc 0) (n':=0) (o₁:=[]) aN aL hI (fun h=>by simp[ei.makes]at h) (fun h=>by simp[ei.makes]at h) (st':={st with e:=cx k ⟨n,el,dF,some (xs.set i (mx q f (cells (ck st.t v))))⟩ st.e}) (by simp only[eA,qF,J,U,ao,and_self,if_true]) a8 fun bn w' bp cr=>c9 _ _ ⟨{st with e:=cx k ⟨n,el,dF,some (xs.set i (mx q f (cells (ck st.t v))))⟩ st.e},bp,by rw[iA au];exact Ts au k _ _,fun k ad=>gg k ad.1,cr⟩
  |mkmap d key=>
   cases key with
   |none=>simp only[en]at ab
   |some m=>simp only[en]at ab;obtain⟨⟨J,_⟩,rfl⟩:=ab;exact jD (κ:= .obj m) (n':=st.n) (o₁:= .obj m::st.o) aN aL hI (fun _=>gg _ J) (fun _=>uU) (st':=⟨put d (.gmap (.obj m)) st.t,cx (.obj m) [.hdm 0 []] st.b,st.e,st.n,.obj m::st.o⟩) (by simp only[eA]) trivial fun bn w' bp cr=>c9 _ _ ⟨_,bp,zv au d _ _ _ _ _ _,mL _ _ _ _ _,cr⟩
  |mput b9 u k v=>simp only[en]at ab;obtain⟨m,cs,cs',J,U,ao,rfl⟩:=ab;rw[←iA au]at J;rw[←iA au,←iA au]at ao;rw[←au.b]at U;exact jD (κ:= .loc 0) (n':=0) (o₁:=[]) aN aL hI (fun h=>by simp[ei.makes]at h) (fun h=>by simp[ei.makes]at h) (st':={st with b:=cx m cs' st.b}) (by simp only[eA,J,U,ao]) trivial fun bn w' bp cr=>c9 _ _ ⟨{st with b:=cx m cs' st.b},bp,Fl au m _ _,fun k ad=>gg k ad.1,cr⟩
  |range d key x=>simp only[en]at ab
 |next d x=>simp only[en]at ab
 |call d f xs=>
  simp only[en]at ab;obtain⟨n,dm,J,ab⟩:=ab;rw[←iA au]at J;rcases ab with⟨⟨s,ai,r,rm,bI,ch,dc,ie,lL,oL,AS,rfl⟩,_⟩|⟨cG,r,rfl,bI,ch,dc,rfl⟩;rotate_left
  ·rw[←tl au]at ch dc;simp only[ud]at aw;split at aw
   ·rename_i qT args Am mR;simp only[cA,dL]at aw;obtain⟨⟨⟨ak,aB⟩,bj⟩,de⟩:=aw;have lP:=eh aL bj;rw[J]at lP;refine Pz aL mR ak aB lP (CP aL de) (K:=fun st'=>st'={st with t:=put cG r st.t,o:= .loc (n0+cG)::st.o}) ⟨⟨[],[]⟩,_,some (n0+cG),st.n,fun _=>.loc (n0+cG)::st.o,fun k cs ad=>by simp[look]at ad,fun k cs ad=>by simp[look]at ad,⟨fun _=>rfl,fun _=>rfl⟩,jJ (fun _ h=>h.elim) _ ch,dc,fun m hm=>?_,fun k eF ai bo ad=>?_,?_⟩ ?_
    ·cases hm;exact gg _ bI.1
    ·obtain⟨_,rfl⟩:=bo;have:=uU k ad;exact⟨by simpa[cS]using this.1,fun m hm=>by cases hm;exact this.2⟩
    ·rintro eF oj ⟨rfl,rfl⟩;refine⟨⟨fun m hm=>by simp[look]at hm,fun m hm=>by simp[look]at hm⟩,?_⟩;simp[after,W6,eK]
    ·rintro st' bn w' bp rfl cr;exact c9 _ _ ⟨_,bp,Tt au cG r _ _,mL _ _ _ _ _,cr⟩
   ·cases aw
  rw[←tl au]at oL AS;simp only[ud]at aw;split at aw
  ·rename_i qT args Am mR;simp only[cA,dL]at aw;obtain⟨⟨⟨ak,aB⟩,bj⟩,de⟩:=aw;have lP:=eh aL bj;rw[J]at lP;obtain⟨aT,bz,b6,dO,cZ⟩:=lL;refine Py aL mR ak aB lP (CP aL de) (K:=fun st'=>st'=after st s ai d r) (.inl ⟨s,_,fun k cs ad=>⟨by rw[au.b];exact(bI k cs ad).1,.inl (by simp[ad]),(bI k cs ad).2⟩,fun k o' ad=>⟨by rw[au.e];exact(ch k o' ad).1,.inr (by simp[ad]),(ch k o' ad).2⟩,dc,oL,AS,?_⟩) ?_
   ·rintro eF oj ⟨rfl,rfl⟩;refine⟨⟨fun m hm=>?_,fun m hm=>?_⟩,rfl⟩
    ·rcases aT _ hm with h|h
     ·exact .inl h
     ·exact .inr (gg _ (cZ _ h).2.1).2
    ·rcases bz _ hm with h|h
     ·exact .inl h
     ·exact .inr (gg _ (cZ _ h).2.1).2
   ·rintro st' bn w' bp rfl cr;refine c9 _ _ ⟨_,bp,⟨fun i=>?_,fun k=>?_,fun k=>?_⟩,fun k ad=>?_,cr⟩
    ·simp only[after,df.do];cases d with
     |none=>simpa[eK]using au.t i
     |some d=>simp only[eK,oU,dG,au.t]
    ·simp only[after,df.do,ig,xw,tU];by_cases ag:(look k s.b).isSome
     ·have:=b6 k ag;obtain⟨y,aG⟩:=fG.1 this;simp[ag,aG]
     ·cases aA:look k ai.b with
      |none=>simp only[ag,au.b];cases A.b k<;>simp
      |some y=>
       rcases aT k (by simp[aA])with h|h
       ·exact absurd h ag
       ·have:=cZ k h;simp[ag,au.b,this]
    ·simp only[after,df.do,ig,xw,tU];by_cases ag:(look k s.e).isSome
     ·have:=dO k ag;obtain⟨y,aG⟩:=fG.1 this;simp[ag,aG]
     ·cases aA:look k ai.e with
      |none=>simp only[ag,au.e];cases A.e k<;>simp
      |some y=>
       rcases bz k (by simp[aA])with h|h
       ·exact absurd h ag
       ·have:=cZ k h;simp[ag,au.e,this]
    ·have I8:=gg k ad.1;have n4:=aL.lookNone I8;simp only[after];refine⟨I8.1,fun jt=>?_⟩;rcases kx.1 jt with jt|jt
     ·exact I8.2 jt
     ·rcases kx.1 jt with jt|jt
      ·rcases aT k (Kq jt)with h|h
       ·obtain⟨y,aG⟩:=fG.1 h;have:=(bI k y aG).1;rw[←au.b,n4.1]at this;cases this
       ·exact ad.2 h
      ·rcases bz k (Kq jt)with h|h
       ·obtain⟨y,aG⟩:=fG.1 h;have:=(ch k y aG).1;rw[←au.e,n4.2]at this;cases this
       ·exact ad.2 h
  ·cases aw
theorem Xk{P:cC}{bB:List (Nat×dB)}(aN:fN P bB=true){C:fa}{q:Bool}{n0:Nat}{ops:Array Oper}{g:c2}{o:Oper}{j:Nat}(af:ops[j]? =some o)(aw:Be C.N bB ops.toList g o=true){A:df}{x:kA}(ab:kB P q n0 g A x){a:Act}{w:World}(aL:wk C A a w)
  {K:Act→World→Prop} {Q:Exit→Act→World→Prop} (c9:∀bn w',wk C (A.do x) bn w'→K bn w'):wpOp P ops Q j K a w:=by
 unfold wpOp;rw[af];simp only;simp only[Be,cA]at aw;obtain⟨qn,q6⟩:=aw;unfold kB at ab;cases Bx:g.g with
 |none=>
  cases eT:o.guard with
  |some x=>simp[eT,Bx]at qn
  |none=>
   have hw:oD o (yielded ops a.tmps)=true:=by simp[oD,eT]
   rw[if_pos hw];simp only[Bx]at ab;exact .inl (MR aN q6 ab aL c9)
 |some x5=>
  obtain⟨s,want⟩:=x5;cases eT:o.guard with
  |none=>simp[eT,Bx]at qn
  |some amo=>
   obtain⟨aox,bO⟩:=amo;simp only[eT,Bx,cA,dL,fH]at qn;obtain⟨⟨⟨⟨rfl,U⟩,ao⟩,a8⟩,bZ⟩:=qn;obtain⟨st,ν,au,gg,dE⟩:=id aL;obtain⟨ku,oB⟩:=W9 dE U ao;simp only[Bx]at ab;have Sd:∀(h:x=k4 g.i.dst),K (a.put o.dst undef) w:=by
    rintro rfl;rw[a8];refine c9 _ _ ⟨_,ν,?_,fun k ad=>?_,dE.put bZ (p:= .tuple []) (by simp[ba,cN,undef])⟩
    ·refine⟨fun i=>?_,fun k=>?_,fun k=>?_⟩
     ·simp only[df.do,k4];cases g.i.dst with
      |none=>simpa[eK]using au.t i
      |some d=>simp only[eK,oU,dG,au.t]
     ·simpa[df.do,ig,look,k4]using au.b k
     ·simpa[df.do,ig,look,k4]using au.e k
    ·exact gg k ad.1
   split at ab
   ·rename_i b ae;have aG:=ku b (by rw[au.t];exact ae);rcases ab with⟨rfl,ab⟩|⟨rfl,ab⟩
    ·have hw:oD o (yielded ops a.tmps)=true:=by simp[oD,eT,aG]
     rw[if_pos hw];exact .inl (MR aN q6 ab aL c9)
    ·have hw:¬(oD o (yielded ops a.tmps)=true):=by simp[oD,eT,aG]
     rw[if_neg hw];exact Sd ab
   ·rename_i ae;have aG:=oB (by rw[au.t];exact ae);have hw:¬(oD o (yielded ops a.tmps)=true):=by simp[oD,eT,aG]
    rw[if_neg hw];exact Sd ab
   ·exact ab.elim
def uP(P:cC)(q:Bool)(n0:Nat)(K:df→Prop):List (Nat×c2)→df→Prop
 |[],A=>K A
 |(_,g)::r,A=> ∃x,kB P q n0 g A x∧uP P q n0 K r (A.do x)
theorem Ns{P:cC}{q:Bool}{n0:Nat}{K:df→Prop}{i:Nat}{g:c2}:∀(nN oG:List (Nat×c2)) (A:df),(∀x∈nN,yK x.2 g=true)→uP P q n0 K (nN++(i,g)::oG) A→∃x,kB P q n0 g A x∧uP P q n0 K (nN++oG) (A.do x)
 |[],oG,A,_,h=>h
 |(j,Q4)::nN,oG,A,ax,h=>by simp only[bU,uP]at h;obtain⟨y,aG,h⟩:=h;obtain⟨x,ab,h⟩:=Ns nN oG (A.do y) (fun z bD=>ax z (pf _ bD)) h;obtain⟨s1,s2,s3⟩:=swap (ax _ (List.mem_cons_self ..)) aG ab;refine⟨x,s1,y,s2,?_⟩;rw[←df.do_comm A s3];exact h
def rem(hx:Array Bool):Nat→List c2→List (Nat×c2)
 |_,[]=>[]
 |k,g::r=>if hx.getD k false then rem hx (k+1) r else(k,g)::rem hx (k+1) r
theorem Vq{l a1:Array Bool}:∀(gs:List c2) (k:Nat),(∀j,k≤j→l.getD j false=a1.getD j false)→rem l k gs=rem a1 k gs
 |[],_,_=>rfl
 |g::r,k,h=>by simp only[rem,h k (eR _),Vq r (k+1) fun j af=>h j (by omega)]
theorem Ej{l:Array Bool}{i j:Nat}(h:i<l.size):(l.setIfInBounds i true).getD j false=if i=j then true else l.getD j false:=by
 simp only[Array.getD_eq_getD_getElem?];by_cases e:i=j
 ·subst e;simp[h]
 ·simp[e]
theorem Ly{l:Array Bool}{i:Nat}(hi:i<l.size)(aA:l.getD i false=false):∀(gs:List c2) (k:Nat),k≤i→i<k+gs.length→∃nN oG g,gs[i-k]? =some g∧rem l k gs=nN++(i,g)::oG∧rem (l.setIfInBounds i true) k gs=nN++oG∧
  ∀x∈nN,gs[x.1-k]? =some x.2∧k≤x.1∧x.1<i∧l.getD x.1 false=false
 |[],k,J,U=>by simp at U;omega
 |g::r,k,J,U=>by
  by_cases e:k=i
  ·subst e;refine⟨[],rem l (k+1) r,g,by simp,by simp[rem,aA],?_,fun x ab=>by simp at ab⟩;simp only[rem,Ej hi,if_true,bX];exact Vq r (k+1) fun j af=>by rw[Ej hi,if_neg (by omega)]
  ·obtain⟨nN,oG,fb,ak,aB,bj,de⟩:=Ly hi aA r (k+1) (by omega) (by simp at U;omega);have u4:i-k=(i-(k+1))+1:=by omega
   have gT:(l.setIfInBounds i true).getD k false=l.getD k false:=by rw[Ej hi,if_neg (by omega)]
   by_cases ad:l.getD k false=true
   ·refine⟨nN,oG,fb,by rw[u4];simpa using ak,by simp only[rem,ad,if_true,aB],by simp only[rem,gT,ad,if_true,bj],fun x ab=>?_⟩;obtain⟨f1,f2,f3,f4⟩:=de x ab;refine⟨?_,by omega,f3,f4⟩;have:x.1-k=(x.1-(k+1))+1:=by omega
    rw[this];simpa using f1
   ·have ad:l.getD k false=false:=by simpa using ad
    refine⟨(k,g)::nN,oG,fb,by rw[u4];simpa using ak,by simp[rem,ad,aB],by simp[rem,gT,ad,bj],fun x ab=>?_⟩;rcases fU.1 ab with rfl|ab
    ·exact⟨by simp,eR _,by simp;omega,ad⟩
    ·obtain⟨f1,f2,f3,f4⟩:=de x ab;refine⟨?_,by omega,f3,f4⟩;have:x.1-k=(x.1-(k+1))+1:=by omega
     rw[this];simpa using f1
def tV(acc:List Nat):List Edge→Nat
 |[]=>0
 |e::r=>if Region.binds .any e then(2 ^ e.on)|||(acc.getD e.on 0)|||tV acc r else tV acc r
def rr(acc:List Nat):List Oper→List Nat
 |[]=>acc
 |o::os=>rr (acc++[tV acc o.after.toList]) os
def CR(m:Nat)(h:c2):Nat→List c2→Bool
 |_,[]=>true
 |i,g::r=>(m.testBit i||yK g h)&&CR m h (i+1) r
def CD:List c2→List c2→List Nat→Bool
 |_,[],_=>true
 |pre,h::r,m::ms=>CR m h 0 pre&&CD (pre++[h]) r ms
 |_,_,[]=>false
def AZ:Nat→List Oper→Bool
 |_,[]=>true
 |k,o::os=>o.after.toList.all (fun e=> !Region.binds .any e||decide (e.on<k))&&AZ (k+1) os
def AL(gs:List c2)(ops:List Oper):Bool:=AZ 0 ops&&CD [] gs (rr [] ops)
theorem Kj{acc:List Nat}{j:Nat}:∀{es:List Edge},(tV acc es).testBit j=true→∃e∈es,Region.binds .any e=true∧(j=e.on∨(acc.getD e.on 0).testBit j=true)
 |[],h=>by simp[tV]at h
 |e::r,h=>by
  simp only[tV]at h;split at h
  ·rename_i ae;simp only[Nat.testBit_or,mB]at h;rcases h with(h|h)|h
   ·refine⟨e,by simp,ae,.inl ?_⟩;rw[Nat.testBit_two_pow]at h;have cr:e.on=j:=by simpa using h
    exact cr.symm
   ·exact⟨e,by simp,ae,.inr h⟩
   ·obtain⟨fJ,J,U⟩:=Kj h;exact⟨fJ,by simp[J],U⟩
  ·obtain⟨fJ,J,U⟩:=Kj h;exact⟨fJ,by simp[J],U⟩
theorem Kk:∀(os:List Oper) (acc:List Nat) (k:Nat),k<acc.length→(rr acc os)[k]? =acc[k]?
 |[],acc,k,_=>rfl
 |o::os,acc,k,h=>by simp only[rr];rw[Kk os _ k (by simp;omega),List.getElem?_append_left h]
theorem TA:∀(os:List Oper) (acc:List Nat) (k:Nat) (o:Oper),os[k]? =some o→∃tb,(rr acc os)[acc.length+k]? =some (tV tb o.after.toList)∧tb.length=acc.length+k∧∀i,i<tb.length→tb[i]? =(rr acc os)[i]?
 |[],acc,k,o,h=>by simp at h
 |o'::os,acc,0,o,h=>by
  simp only[List.getElem?_cons_zero,dG]at h;subst h;refine⟨acc,?_,by simp,fun i hi=>?_⟩
  ·simp only[rr,Nat.add_zero];rw[Kk os _ _ (by simp)];simp
  ·simp only[rr];rw[Kk os _ i (by simp;omega),List.getElem?_append_left hi]
 |o'::os,acc,k+1,o,h=>by simp only[List.getElem?_cons_succ]at h;obtain⟨tb,J,U,ao⟩:=TA os (acc++[tV acc o'.after.toList]) k o h;refine⟨tb,?_,by rw[U];simp;omega,fun i hi=>by rw[ao i hi];rfl⟩;simp only[rr];rw[show acc.length+(k+1)=(acc++[tV acc o'.after.toList]).length+k from by simp;omega];exact J
def MM(ops:Array Oper)(hx:Array Bool):Prop:= ∀k o,ops[k]? =some o→hx.getD k false=true→∀e∈o.after.toList,Region.binds .any e=true→hx.getD e.on false=true
theorem afQ{ops:Array Oper}{hx:Array Bool}(aQ:MM ops hx):∀(k:Nat) (o:Oper),ops[k]? =some o→(∀e∈o.after.toList,Region.binds .any e=true→hx.getD e.on false=true)→∀j,((rr [] ops.toList).getD k 0).testBit j=true→hx.getD j false=true:=by
 intro k;induction k using Nat.strongRecOn with
 |_ k bT=>
  intro o aw au j af;obtain⟨tb,J,U,ao⟩:=TA ops.toList [] k o (by simpa using aw);simp only[List.length_nil,Nat.zero_add]at J U;rw[List.getD_eq_getElem?_getD,J]at af;obtain⟨e,he,ae,cO⟩:=Kj af;rcases cO with rfl|cO
  ·exact au e he ae
  ·by_cases bC:e.on<tb.length
   ·have hm:tb.getD e.on 0=(rr [] ops.toList).getD e.on 0:=by rw[List.getD_eq_getElem?_getD,ao _ bC,List.getD_eq_getElem?_getD]
    have ad:k<ops.size:=(Array.getElem?_eq_some_iff.1 aw).1;have hI:ops[e.on]? =some ops[e.on]:=Array.getElem?_eq_getElem (by omega);rw[hm]at cO;exact bT e.on (by omega) _ hI (fun fJ u2 fR=>aQ e.on _ hI (au e he ae) fJ u2 fR) j cO
   ·rw[List.getD_eq_getElem?_getD,p1 (by omega)]at cO;simp at cO
theorem VG{m:Nat}{h:c2}:∀{gs:List c2} {i0:Nat},CR m h i0 gs=true→∀i g,gs[i]? =some g→m.testBit (i0+i)=true∨yK g h=true
 |[],i0,_,i,g,a7=>by simp at a7
 |fb::r,i0,aL,0,g,a7=>by simp only[CR,cA,mB]at aL;simp only[List.getElem?_cons_zero,dG]at a7;subst a7;simpa using aL.1
 |fb::r,i0,aL,i+1,g,a7=>by simp only[CR,cA]at aL;have:=VG aL.2 i g (by simpa using a7);rwa[show i0+1+i=i0+(i+1)from by omega]at this
theorem Ut:∀{gs pre:List c2} {ms:List Nat},CD pre gs ms=true→∀j h,gs[j]? =some h→∀i g,i<pre.length+j→(pre++gs)[i]? =some g→(ms.getD j 0).testBit i=true∨yK g h=true
 |[],pre,ms,_,j,h,af,_,_,_,_=>by simp at af
 |cr::r,pre,[],bJ,j,h,af,_,_,_,_=>by simp[CD]at bJ
 |cr::r,pre,m::ms,bJ,j,h,af,i,g,hi,a7=>by
  simp only[CD,cA]at bJ;cases j with
  |zero=>simp only[List.getElem?_cons_zero,dG]at af;subst af;rw[List.getElem?_append_left (by omega)]at a7;simpa using VG bJ.1 i g a7
  |succ j=>have:=Ut bJ.2 j h (by simpa using af) i g (by simp;omega) (by simpa using a7);simpa using this
theorem P0:∀{os:List Oper} {k:Nat},AZ k os=true→∀i o,os[i]? =some o→∀e∈o.after.toList,Region.binds .any e=true→e.on<k+i
 |[],k,_,i,o,aw,_,_,_=>by simp at aw
 |o'::os,k,h,0,o,aw,e,he,ae=>by simp only[AZ,cA,jb]at h;simp only[List.getElem?_cons_zero,dG]at aw;subst aw;have:=h.1 e he;simpa[ae]using this
 |o'::os,k,h,i+1,o,aw,e,he,ae=>by simp only[AZ,cA]at h;have:=P0 h.2 i o (by simpa using aw) e he ae;omega
theorem Q6{N:Nat}{bB:List (Nat×dB)}{ops:List Oper}:∀{gs:List c2} {os:List Oper},kd N bB ops gs os=true→∀(i:Nat) (g:c2),gs[i]? =some g→∃o,os[i]? =some o∧Be N bB ops g o=true
 |[],[],_,i,g,h=>by simp at h
 |[],_::_,h,_,_,_=>by simp[kd]at h
 |_::_,[],h,_,_,_=>by simp[kd]at h
 |fb::gs,o::os,h,0,g,a7=>by simp only[kd,cA]at h;simp only[List.getElem?_cons_zero,dG]at a7;subst a7;exact⟨o,by simp,h.1⟩
 |fb::gs,o::os,h,i+1,g,a7=>by simp only[kd,cA]at h;obtain⟨o',J,U⟩:=Q6 h.2 i g (by simpa using a7);exact⟨o',by simpa using J,U⟩
theorem IP{N:Nat}{bB:List (Nat×dB)}{ops:List Oper}:∀{gs:List c2} {os:List Oper},kd N bB ops gs os=true→gs.length=os.length
 |[],[],_=>rfl
 |[],_::_,h=>by simp[kd]at h
 |_::_,[],h=>by simp[kd]at h
 |g::gs,o::os,h=>by simp only[kd,cA]at h;simp[IP h.2]
theorem Vr{l:Array Bool}:∀(gs:List c2) (k:Nat),rem l k gs=[]∨ ∃i g,i<gs.length∧gs[i]? =some g∧l.getD (k+i) false=false∧∀j,j<i→l.getD (k+j) false=true
 |[],_=>.inl rfl
 |g::r,k=>by
  by_cases h:l.getD k false=true
  ·rcases Vr (l:=l) r (k+1)with J|⟨i,fb,J,U,ao,a8⟩
   ·left;simp only[rem,h,if_true,J]
   ·refine .inr ⟨i+1,fb,by simp;omega,by simpa using U,by rw[show k+(i+1)=k+1+i from by omega];exact ao,fun j af=>?_⟩;cases j with
    |zero=>simpa using h
    |succ j=>rw[show k+(j+1)=k+1+j from by omega];exact a8 j (by omega)
  ·exact .inr ⟨0,g,by simp,by simp,by simpa using h,fun j af=>by omega⟩
theorem XJ{P:cC}{bB:List (Nat×dB)}(aN:fN P bB=true){C:fa}{q:Bool}{n0:Nat}{ops:Array Oper}{gs:List c2}(ki:kd C.N bB ops.toList gs ops.toList=true)(Es:AL gs ops.toList=true){K:df→Prop}{Q:Exit→Act→World→Prop}
  (hT:∀A a w,K A→wk C A a w→Q .normal a w):∀(fuel:Nat) (hx:Array Bool) (A:df) (a:Act) (w:World),hx.size=ops.size→MM ops hx→(rem hx 0 gs).length≤fuel→uP P q n0 K (rem hx 0 gs) A→wk C A a w→wpAny P .any ops Q fuel hx a w:=by
 simp only[AL,cA]at Es;obtain⟨I0,aeg⟩:=Es;have hlen:gs.length=ops.size:=by simpa using IP ki
 have Rs:∀(hx:Array Bool) (A:df) (a:Act) (w:World),hx.size=ops.size→uP P q n0 K (rem hx 0 gs) A→wk C A a w→Region.ready .any ops hx=[]→Q .normal a w:=by
  intro hx A a w ef sb aL EP;rcases Vr (l:=hx) gs 0 with h|⟨i,g,J,U,ao,a8⟩
  ·rw[h]at sb;exact hT A a w sb aL
  ·exfalso;have hi:i<ops.size:=by omega
   have jt:i∈Region.ready .any ops hx:=by
    unfold Region.ready;simp only[nj,List.mem_range,cA,Bool.not_eq_true'];refine⟨hi,?_,?_⟩
    ·rw[Nat.zero_add]at ao;simp only[Array.getD_eq_getD_getElem?]at ao⊢;rw[Array.getElem?_eq_getElem (by omega)]at ao⊢;simpa using ao
    ·rw[Array.getElem?_eq_getElem hi];simp only[nM,ky];rw[←Array.all_toList,jb];intro e he;by_cases ae:Region.binds .any e=true
     ·have bC:=P0 I0 i ops[i] (by simp[hi]) e he ae;have:=a8 e.on (by omega);rw[Nat.zero_add]at this;simp[this]
     ·simp[ae]
   rw[EP]at jt;simp at jt
 intro fuel;induction fuel with
 |zero=>
  intro hx A a w ef aQ aI sb aL;have aea:rem hx 0 gs=[]:=List.eq_nil_of_length_eq_zero (by omega);have EP:Region.ready .any ops hx=[]:=by
   rw[List.eq_nil_iff_forall_not_mem];intro i hi;unfold Region.ready at hi;simp only[nj,List.mem_range,cA,Bool.not_eq_true']at hi;obtain⟨J,U,_⟩:=hi;have aA:hx.getD i false=false:=by simp only[Array.getD_eq_getD_getElem?]at U⊢;rw[Array.getElem?_eq_getElem (by omega)]at U⊢;simpa using U
   obtain⟨nN,oG,g,_,aB,_⟩:=Ly (by omega) aA gs 0 (by omega) (by omega);rw[aea]at aB;simp at aB
  exact⟨EP,Rs hx A a w ef sb aL EP⟩
 |succ fuel bT=>
  intro hx A a w ef aQ aI sb aL;refine⟨Rs hx A a w ef sb aL,fun i hi=>?_⟩;unfold Region.ready at hi;simp only[nj,List.mem_range,cA,Bool.not_eq_true']at hi;obtain⟨J,U,ao⟩:=hi;have aA:hx.getD i false=false:=by simp only[Array.getD_eq_getD_getElem?]at U⊢;rw[Array.getElem?_eq_getElem (by omega)]at U⊢;simpa using U
  have aw:ops[i]? =some ops[i]:=Array.getElem?_eq_getElem J;have Ru:∀e∈ops[i].after.toList,Region.binds .any e=true→hx.getD e.on false=true:=by rw[aw]at ao;simp only[nM,ky]at ao;rw[←Array.all_toList,jb]at ao;intro e he ae;simpa[ae]using ao e he
  obtain⟨nN,oG,g,ak,aB,bj,de⟩:=Ly (by omega) aA gs 0 (by omega) (by omega);simp only[Nat.sub_zero]at ak de;rw[aB]at sb;obtain⟨x,ab,adm⟩:=Ns nN oG A (fun y aG=>by
   obtain⟨f1,f2,f3,f4⟩:=de y aG;rcases Ut aeg i g ak y.1 y.2 (by simpa using f3) (by simpa using f1)with h|h
   ·have:=afQ aQ i ops[i] aw Ru y.1 h;rw[f4]at this;cases this
   ·exact h) sb
  obtain⟨o',g1,g2⟩:=Q6 ki i g ak;have:o'=ops[i]:=by rw[sV,aw]at g1;exact(fB g1).symm
  subst this;refine Xk aN aw g2 ab aL fun bn w' dE=>?_;refine bT (hx.setIfInBounds i true) (A.do x) bn w' (by simpa using ef) ?_ ?_ (by rw[bj];exact adm) dE
  ·intro k o ad au e he ae;rw[Ej (by omega)]at au⊢;split
   ·rfl
   ·by_cases u4:i=k
    ·subst u4;rw[aw]at ad;cases ad;exact Ru e he ae
    ·rw[if_neg u4]at au;exact aQ k o ad au e he ae
  ·rw[bj];rw[aB]at aI;simp at aI⊢;omega
def wL(n0 d:Nat)(st:bq):Prop:= .loc (n0+d)∉st.o∧look (.loc (n0+d)) st.b=none∧look (.loc (n0+d)) st.e=none
def fO.loadO(q:Bool)(t:List (Nat×ah)):fO→Prop
 | .load _ _ x=>q=true∨xl (ck t x)=true
 | .loadB _ _ _=>True
 | .mgetB _ _ _ _ _=>True
 | .mget _ _ _ _ _=>q=true
 | .ment _=>q=true
 | .mlen _=>q=true
 |_=>True
def lN(q:Bool)(nw:List Nat)(n0:Nat)(st:bq):ei→Prop
 | .v _ i=>i.loadO q st.t
 | .box d none _=>wL n0 d st
 | .alloc d none _=>wL n0 d st
 | .box _ (some _) _=>eQ
 | .alloc _ (some _) _=>eQ
 | .store _ x _=>match ck st.t x with| .ptr _ _=>True|_=>eQ
 | .bslm _ _ _ _ _=>eQ
 | .mks _ _ _ _ _ _=>eQ
 | .appm _ _ _ _ x _=>match ck st.t x with| .row _ _ _=>True|_=>eQ
 | .storeE _ _ _=>True
 | .mkmap _ none=>eQ
 | .mkmap _ (some m)=>m∈nw∧look (.obj m) st.b=none∧look (.obj m) st.e=none
 | .mput _ _ _ _=>True
 | .range _ _ _=>eQ
 | .bsl d _ _ _=>wL n0 d st
 | .app d _ _ x _=>match ck st.t x with
  | .slice _ .nil _=>wL n0 d st
  | .slice _ (.own k) _=>(look k st.e).bind (·.xs)=none
  |_=>True
def oN(n0:Nat):ei→aH
 | .mkmap _ (some m)=>.obj m
 | .v d _| .box d _ _| .alloc d _ _| .bsl d _ _ _| .app d _ _ _ _| .bslm d _ _ _ _| .appm d _ _ _ _ _| .mkmap d _| .range d _ _| .mks d _ _ _ _ _=>.loc (n0+d)
 | .store _ _ _| .mput _ _ _ _| .storeE _ _ _=>.loc n0
def afn(nw:List Nat)(st:bq)(s ai:cJ)(rm:aY aH):Prop:=(∀k,(look k ai.b).isSome→(look k s.b).isSome∨rm=some k)∧(∀k,(look k ai.e).isSome→(look k s.e).isSome∨rm=some k)∧(∀k,(look k s.b).isSome→(look k ai.b).isSome)∧(∀k,(look k s.e).isSome→(look k ai.e).isSome)∧
 (∀k,rm=some k→(∃j,j∈nw∧k= .obj j)∧look k st.b=none∧look k st.e=none∧((look k ai.b).isSome∨(look k ai.e).isSome))
def hX(P:cC)(q:Bool)(nw:List Nat)(n:Nat)(args:List ah)(st:bq)(d:aY Nat)(K:bq→Prop):Prop:=
 (∃cG r,d=some cG∧wL st.n cG st∧aK (fun _=>eQ) args∧G3 P n (st.n+cG) args ⟨[],[]⟩ (fun eF dJ=>eF=r∧dJ=⟨[],[]⟩)∧K {st with t:=put cG r st.t,o:= .loc (st.n+cG)::st.o})∨
 ∃s ai r rm,gy (inObs s) s.b st.b∧ot (inObs s) s.e st.e∧iH s∧iH ai∧afn nw st s ai rm∧aK (inObs s) args∧bQ P n args s (fun eF dJ=>eF=r∧dJ=ai)∧(q=true→ai.b=[]∧ai.e=[])∧K {after st s ai d r with o:=st.o}
def ka(P:cC)(q:Bool)(nw:List Nat)(n0:Nat)(st:bq)(K:bq→Prop):eb→Prop
 | .s i=>match eA (oN n0 i) st.n (oN n0 i::st.o) st i with
  |some (c,st')=>lN q nw n0 st i∧c∧K st'
  |none=>eQ
 | .call d f xs=>match ck st.t f with
  | .func n dm=>hX P q nw n (cY (xs.map (ck st.t)++dm)) st d K
  |_=>eQ
 | .next _ _=>eQ
def hH(P:cC)(q:Bool)(nw:List Nat)(n0:Nat):List c2→bq→(bq→Prop)→Prop
 |[],st,K=>K st
 |⟨none,i⟩::r,st,K=>ka P q nw n0 st (fun st'=>hH P q nw n0 r st' K) i
 |⟨some (s,want),i⟩::r,st,K=>match get s st.t with
  | .bool b=>(b=want→ka P q nw n0 {st with t:=put s (.bool want) st.t} (fun st'=>hH P q nw n0 r st' K) i)∧(b= !want→hH P q nw n0 r {st with t:=eK i.dst (.tuple []) (put s (.bool !want) st.t)} K)
  | .tuple []=>hH P q nw n0 r {st with t:=eK i.dst (.tuple []) st.t} K
  |_=>eQ
structure rT (nw:List Nat) (n0 N:Nat) (o5:List aH) (st:bq) (A:df):Prop where
 like:k8 st A
 n:st.n=n0
 F:∀k,fresh n0 st.o k→(∀j∈nw,k≠ .obj j)→A.F k
 o:∀k∈st.o,k∈o5∨(∃d,d<N∧k= .loc (n0+d))∨ ∃j∈nw,k= .obj j
def AE(nw:List Nat)(A:df):Prop:= ∀j∈nw,A.b (.obj j)=none→A.e (.obj j)=none→A.F (.obj j)
theorem AE.do{P:cC}{q:Bool}{n0:Nat}{nw:List Nat}{A:df}(h:AE nw A){g:c2}{x:kA}(ab:kB P q n0 g A x):AE nw (A.do x):=by
 intro j af ae he;refine⟨h j af (H0 ae) (H2 he),fun qi=>?_⟩;rcases(Mf ab).r _ qi with⟨d,_,e⟩|⟨_,_,ag⟩
 ·cases e
 ·rcases ag with ag|ag
  ·obtain⟨y,aG⟩:=fG.1 ag;simp[df.do,ig,aG]at ae
  ·obtain⟨y,aG⟩:=fG.1 ag;simp[df.do,ig,aG]at he
theorem P8{P:cC}{q:Bool}{nw:List Nat}{n0 N:Nat}{o5:List aH}{i:eb}(aQ:∀d,i.dst=some d→d<N){st:bq}{A:df}(h:rT nw n0 N o5 st A)(nY:AE nw A){K:bq→Prop}(he:ka P q nw n0 st K i):∃x st',en P q n0 i A x∧K st'∧rT nw n0 N o5 st' (A.do x):=by
 have au:=h.like;have wY:∀d,wL n0 d st→(A.F (.loc (n0+d))∧A.b (.loc (n0+d))=none∧A.e (.loc (n0+d))=none):=fun d aI=>⟨h.F _ ⟨by simp,aI.1⟩ (fun _ _ e=>by cases e),by rw[←au.b];exact aI.2.1,by rw[←au.e];exact aI.2.2⟩;have mL:∀(d:aY Nat) (p:ah) (bw:List (aH×List ah)) (ew:List (aH×fM)) (κ:aH),∀k,fresh n0 (κ::st.o) k→(∀j∈nw,k≠ .obj j)→(A.do ⟨d,p,bw,ew,some κ⟩).F k:=fun d p bw ew κ k ad af=>⟨h.F k (uU k ad).1 af,fun e=>(uU k ad).2 (fB e).symm⟩;have wP:∀(d:aY Nat) (p:ah) (bw:List (aH×List ah)) (ew:List (aH×fM)),∀k,fresh n0 st.o k→(∀j∈nw,k≠ .obj j)→(A.do ⟨d,p,bw,ew,none⟩).F k:=fun d p bw ew k ad af=>⟨h.F k ad af,by simp⟩;have ln:∀d,d<N→∀k∈aH.loc (n0+d)::st.o,k∈o5∨(∃d,d<N∧k= .loc (n0+d))∨ ∃j∈nw,k= .obj j:=fun d aQ k ad=>by
  rcases fU.1 ad with rfl|ad
  ·exact .inr (.inl ⟨d,aQ,rfl⟩)
  ·exact h.o k ad
 cases i with
 |s i=>
  cases i with
  |v d i=>
   simp only[ka,eA]at he;cases aJ:gZ st i with
   |none=>simp[aJ]at he
   |some HX=>
    obtain⟨c,p⟩:=HX;simp only[aJ]at he;obtain⟨J,U,ao⟩:=he;refine⟨⟨some d,p,[],[],none⟩,_,⟨c,p,by rw[←Wn au];exact aJ,U,fun nx=>?_,rfl⟩,ao,Kb au d p,h.n,wP _ _ _ _,h.o⟩;cases i<;>simp only[fO.isLoad]at nx<;>try(cases nx;done)
    case mget=>exact .inr (.inl J)
    case ment=>exact .inr (.inl J)
    case mlen=>exact .inr (.inl J)
    case loadB=>exact .inl rfl
    case mgetB=>exact .inl rfl
    simp only[lN,fO.loadO,iA au]at J;exact .inr (by simpa only[fO.ptrOf]using J)
  |box d key v=>
   cases key with
   |some m=>simp only[ka,eA,lN,false_and]at he
   |none=>simp only[ka,eA,lN,oN]at he;obtain⟨J,U,ao⟩:=he;rw[iA au]at U;refine⟨_,_,⟨wY d J,U,rfl⟩,ao,?_,h.n,mL _ _ _ _ _,ln d (aQ d rfl)⟩;rw[iA au];exact zv au d _ _ _ _ _ _
  |alloc d key z=>
   cases key with
   |some m=>simp only[ka,eA,lN,false_and]at he
   |none=>simp only[ka,eA,lN,oN]at he;obtain⟨J,U,ao⟩:=he;exact⟨_,_,⟨wY d J,rfl⟩,ao,zv au d _ _ _ _ _ _,h.n,mL _ _ _ _ _,ln d (aQ d rfl)⟩
  |store sz u v=>
   simp only[ka,eA]at he;cases hu:ck st.t u with
   |ptr k off=>
    cases ae:look k st.b with
    |none=>simp[hu,ae]at he
    |some cs=>simp only[hu,ae]at he;obtain⟨J,U,ao⟩:=he;rw[iA au]at U hu;refine⟨⟨none,.junk,[(k,nD cs off (cells (dv A.t v)))],[],none⟩,_,⟨k,off,cs,hu,by rw[←au.b];exact ae,U,rfl⟩,ao,?_,h.n,wP _ _ _ _,h.o⟩;rw[iA au];exact Fl au k _ _
   |_=>
    exfalso;simp only[hu]at he;split at he
    ·have:=he.1;simp[lN,hu]at this
    ·exact he
  |bsl d sz el xs=>simp only[ka,eA,lN,oN]at he;obtain⟨J,U,ao⟩:=he;rw[tl au]at U;refine⟨_,_,⟨wY d J,U,rfl⟩,ao,?_,h.n,mL _ _ _ _ _,ln d (aQ d rfl)⟩;rw[tl au];exact vu au d _ _ _ _ _ _
  |app d sz el u v=>
   simp only[ka,eA]at he;cases hu:ck st.t u with
   |slice dF tag xs=>
    cases aJ:ck st.t v with
    |slice ja kK ys=>
     simp only[hu,aJ]at he;by_cases e8:dF=sz∧ja=sz
     ·obtain⟨rfl,rfl⟩:=e8;rw[iA au]at hu aJ;cases tag with
      |no=>simp at he
      |tr k j=>simp at he
      |lo k=>simp at he
      |nil=>simp only[and_self,if_true,lN,iA au,hu,oN]at he;obtain⟨J,U,ao⟩:=he;exact⟨_,_,⟨.nil,xs,kK,ys,hu,aJ,.inr ⟨rfl,U,wY d J,rfl⟩⟩,ao,vu au d _ _ _ _ _ _,h.n,mL _ _ _ _ _,ln d (aQ d rfl)⟩
      |own k=>
       cases ad:look k st.e with
       |none=>simp[ad]at he
       |some o=>simp only[and_self,if_true,ad]at he;obtain⟨J,U,ao⟩:=he;exact⟨_,_,⟨.own k,xs,kK,ys,hu,aJ,.inl ⟨k,o,rfl,by rw[←au.e];exact ad,⟨by simpa[lN,iA au,hu,ad]using J,U⟩,rfl⟩⟩,ao,vu au d _ _ _ _ _ _,h.n,wP _ _ _ _,h.o⟩
     ·simp[e8]at he
    |_=>simp[hu,aJ]at he
   |_=>simp[hu]at he
  |bslm d key sz el xs=>simp only[ka,eA,lN,false_and]at he
  |mks d key sz el z x=>simp only[ka,eA,lN,false_and]at he;split at he<;>simp at he
  |appm d key sz el u v=>
   simp only[ka,eA]at he;cases hu:ck st.t u with
   |row dF k n=>
    cases aJ:ck st.t v with
    |slice ja kK ys=>
     simp only[hu,aJ,rY]at he;by_cases e8:dF=sz∧ja=sz
     ·obtain⟨rfl,rfl⟩:=e8;rw[iA au]at hu aJ;simp only[and_self,if_true]at he;cases ad:look k st.e with
      |none=>simp[ad]at he
      |some o=>
       obtain⟨n',fP,vT,KW⟩:=o;cases KW with
       |none=>simp[ad]at he
       |some xs=>
        simp only[ad]at he;by_cases wU:n'=n∧fP=el∧vT=ja
        ·obtain⟨rfl,rfl,rfl⟩:=wU;simp only[and_self,if_true]at he;obtain⟨J,U,ao⟩:=he;exact⟨_,_,⟨k,n',xs,kK,ys,hu,aJ,by rw[←au.e];exact ad,U,rfl⟩,ao,vu au d _ _ _ _ _ _,h.n,wP _ _ _ _,h.o⟩
        ·simp[wU]at he
     ·simp[e8]at he
    |_=>simp[hu,aJ,rY]at he
   |slice dF tag xs=>
    exfalso;simp only[hu]at he;split at he
    ·have:=he.1;simp[lN,hu]at this
    ·exact he
   |_=>simp[hu,rY]at he
  |storeE sz u v=>
   simp only[ka,eA]at he;cases hu:ck st.t u with
   |rptr dF k n i f=>
    cases ad:look k st.e with
    |none=>simp[hu,qF,ad]at he
    |some o=>
     obtain⟨n',el,vT,KW⟩:=o;cases KW with
     |none=>simp[hu,qF,ad]at he
     |some xs=>
      simp only[hu,qF,ad]at he;by_cases wU:n'=n∧vT=dF
      ·obtain⟨rfl,rfl⟩:=wU;simp only[and_self,if_true]at he;cases bo:xs[i]? with
       |none=>simp[bo]at he
       |some q=>simp only[bo]at he;obtain⟨J,U,ao⟩:=he;rw[iA au]at U hu;refine⟨⟨none,.junk,[],[(k,⟨n',el,vT,some (xs.set i (mx q f (cells (dv A.t v))))⟩)],none⟩,_,⟨k,n',i,f,el,vT,xs,q,hu,by rw[←au.e];exact ad,bo,U,rfl⟩,ao,?_,h.n,wP _ _ _ _,h.o⟩;rw[iA au];exact Ts au k _ _
      ·simp[wU]at he
   |_=>simp[hu,qF]at he
  |mkmap d key=>
   cases key with
   |none=>simp only[ka,eA,lN,false_and]at he
   |some m=>
    simp only[ka,eA,lN,oN]at he;obtain⟨⟨bA,J,U⟩,_,ao⟩:=he;rw[au.b]at J;rw[au.e]at U;refine⟨_,_,⟨⟨nY m bA J U,J,U⟩,rfl⟩,ao,zv au d _ _ _ _ _ _,h.n,mL _ _ _ _ _,fun k ad=>?_⟩;rcases fU.1 ad with rfl|ad
    ·exact .inr (.inr ⟨m,bA,rfl⟩)
    ·exact h.o k ad
  |mput b9 u k v=>
   simp only[ka,eA,lN]at he;cases hu:ck st.t u with
   |gmap m=>
    cases ae:look m st.b with
    |none=>simp[hu,ae]at he
    |some cs=>
     cases hm:og b9 (ck st.t k) (ck st.t v) cs with
     |none=>simp[hu,ae,hm]at he
     |some cs'=>simp only[hu,ae,hm]at he;rw[iA au]at hu;rw[iA au,iA au]at hm;exact⟨⟨none,.junk,[(m,cs')],[],none⟩,_,⟨m,cs,cs',hu,by rw[←au.b];exact ae,hm,rfl⟩,he.2.2,Fl au m _ _,h.n,wP _ _ _ _,h.o⟩
   |_=>simp[hu]at he
  |range d key x=>simp only[ka,lN,false_and]at he;split at he<;>exact he.elim
 |next d x=>simp only[ka]at he
 |call d f xs=>
  simp only[ka]at he;cases aI:ck st.t f with
  |func n dm=>
   simp only[aI]at he;rw[iA au]at aI;rcases he with⟨cG,r,rfl,bI,ch,dc,ie⟩|⟨s,ai,r,rm,bI,ch,dc,ie,lL,oL,AS,X8,X9⟩
   ·rw[tl au]at ch dc;have aA:=h.n;subst aA;refine⟨⟨some cG,r,[],[],some (.loc (st.n+cG))⟩,_,⟨n,dm,aI,.inr ⟨cG,r,rfl,wY cG bI,ch,dc,rfl⟩⟩,ie,Tt au cG r _ _,rfl,mL _ _ _ _ _,ln cG (aQ cG rfl)⟩
   rw[tl au]at oL AS;obtain⟨aT,bz,b6,dO,cZ⟩:=lL;refine⟨⟨d,r,ai.b,ai.e,rm⟩,_,⟨n,dm,aI,.inl ⟨⟨s,ai,r,rm,fun k cs ad=>⟨by rw[←au.b];exact(bI k cs ad).1,(bI k cs ad).2.2⟩,fun k o ad=>⟨by rw[←au.e];exact(ch k o ad).1,(ch k o ad).2.2⟩,dc,ie,⟨aT,bz,b6,dO,fun k ad=>?_⟩,oL,AS,rfl⟩,X8⟩⟩,X9,⟨fun i=>?_,fun k=>?_,fun k=>?_⟩,h.n,fun k ad af=>⟨h.F k ad af,fun qi=>?_⟩,h.o⟩
   ·obtain⟨⟨j,af,rfl⟩,aB,bj,de⟩:=cZ k ad;rw[au.b]at aB;rw[au.e]at bj;exact⟨⟨j,rfl⟩,nY j af aB bj,aB,bj,de⟩
   ·simp only[after,df.do];cases d with
    |none=>simpa[eK]using au.t i
    |some d=>simp only[eK,oU,dG,au.t]
   ·simp only[after,df.do,ig,xw,tU];by_cases ag:(look k s.b).isSome
    ·have:=b6 k ag;obtain⟨y,aG⟩:=fG.1 this;simp[ag,aG]
    ·cases aA:look k ai.b with
     |none=>simp only[ag,au.b];cases A.b k<;>simp
     |some y=>
      rcases aT k (by simp[aA])with h|h
      ·exact absurd h ag
      ·have:=cZ k h;simp[ag,this]
   ·simp only[after,df.do,ig,xw,tU];by_cases ag:(look k s.e).isSome
    ·have:=dO k ag;obtain⟨y,aG⟩:=fG.1 this;simp[ag,aG]
    ·cases aA:look k ai.e with
     |none=>simp only[ag,au.e];cases A.e k<;>simp
     |some y=>
      rcases bz k (by simp[aA])with h|h
      ·exact absurd h ag
      ·have:=cZ k h;simp[ag,this]
   ·obtain⟨⟨j,jf,rfl⟩,_⟩:=cZ k qi;exact af j jf rfl
  |_=>simp[aI]at he
def yA(N:Nat):List c2→Bool
 |[]=>true
 |g::r=>jd N g.i.dst&&yA N r
def yc:Nat→List c2→List (Nat×c2)
 |_,[]=>[]
 |k,g::r=>(k,g)::yc (k+1) r
theorem M5{nw:List Nat}{n0 N:Nat}{o5:List aH}{st:bq}{A:df}(h:rT nw n0 N o5 st A){s:Nat}{p:ah}(ag:get s st.t=p):rT nw n0 N o5 {st with t:=put s p st.t} A:=by
 refine⟨⟨fun i=>?_,h.like.b,h.like.e⟩,h.n,h.F,h.o⟩;simp only[oU];split
 ·rename_i e;subst e;rw[←ag];exact h.like.t _
 ·exact h.like.t i
theorem M6{nw:List Nat}{n0 N:Nat}{o5:List aH}{st:bq}{A:df}(h:rT nw n0 N o5 st A)(d:aY Nat):rT nw n0 N o5 {st with t:=eK d (.tuple []) st.t} (A.do (k4 d)):=by
 refine⟨⟨fun i=>?_,fun k=>?_,fun k=>?_⟩,h.n,fun k ad af=>⟨h.F k ad af,by simp[k4]⟩,h.o⟩
 ·simp only[df.do,k4];cases d with
  |none=>simpa[eK]using h.like.t i
  |some d=>simp only[eK,oU,dG,h.like.t]
 ·simpa[df.do,ig,look,k4]using h.like.b k
 ·simpa[df.do,ig,look,k4]using h.like.e k
theorem A2{P:cC}{q:Bool}{nw:List Nat}{n0 N:Nat}{o5:List aH}{K:bq→Prop}:∀(gs:List c2) (k:Nat),yA N gs=true→∀(st:bq) (A:df),rT nw n0 N o5 st A→AE nw A→hH P q nw n0 gs st K→uP P q n0 (fun gf=> ∃st',K st'∧rT nw n0 N o5 st' gf) (yc k gs) A
 |[],k,_,st,A,h,_,he=>⟨st,he,h⟩
 |⟨mK,i⟩::r,k,aQ,st,A,h,nY,he=>by
  simp only[yA,cA]at aQ;have sc:∀d,i.dst=some d→d<N:=fun d e=>by have:=aQ.1;rw[e]at this;simpa[jd]using this
  simp only[yc,uP];cases mK with
  |none=>simp only[hH]at he;obtain⟨x,st',J,U,ao⟩:=P8 sc h nY he;have a7:kB P q n0 ⟨none,i⟩ A x:=J;exact⟨x,a7,A2 r (k+1) aQ.2 st' _ ao (nY.do a7) U⟩
  |some x5=>
   obtain⟨s,want⟩:=x5;simp only[hH]at he;split at he
   ·rename_i b ae;by_cases e:b=want
    ·subst e;obtain⟨x,st',J,U,ao⟩:=P8 sc (M5 h ae) nY (he.1 rfl);have a7:kB P q n0 ⟨some (s,b),i⟩ A x:=by unfold kB;simp only[←h.like.t,ae];exact .inl ⟨trivial,J⟩
     exact⟨x,a7,A2 r (k+1) aQ.2 st' _ ao (nY.do a7) U⟩
    ·have fR:b= !want:=by cases b<;>cases want<;>simp at e⊢
     subst fR;have a7:kB P q n0 ⟨some (s,want),i⟩ A (k4 i.dst):=by unfold kB;simp only[←h.like.t,ae];exact .inr ⟨trivial,trivial⟩
     exact⟨k4 i.dst,a7,A2 r (k+1) aQ.2 _ _ (M6 (M5 h ae) i.dst) (nY.do a7) (he.2 rfl)⟩
   ·rename_i ae;have a7:kB P q n0 ⟨some (s,want),i⟩ A (k4 i.dst):=by unfold kB;simp only[←h.like.t,ae]
    exact⟨k4 i.dst,a7,A2 r (k+1) aQ.2 _ _ (M6 h i.dst) (nY.do a7) he⟩
   ·exact he.elim
theorem Lx:∀(gs:List c2) (l:Array Bool) (k:Nat),(∀j,l.getD j false=false)→rem l k gs=yc k gs
 |[],_,_,_=>rfl
 |g::r,l,k,h=>by simp only[rem,h k,yc,Lx r l (k+1) h];simp
def sY(n:Nat)(o:List aH)(K:bq→Prop)(st:bq):Prop:=K {st with n:=n,o:=o}
theorem Good.like{pr:Nat→Prop}{w:World}{ν:bd}{b bO:List (aH×List ah)}{e fJ:List (aH×fM)}(h:Good pr w ν b e)(ae:∀k,look k bO=look k b)(he:∀k,look k fJ=look k e):Good pr w ν bO fJ:=
 ⟨h.alt,fun k cs ad=>h.box k cs (by rw[←ae];exact ad),fun k bM bl J U=>h.inj k bM bl (by rw[←ae];exact J) (by rw[←ae];exact U),fun g o a7=>h.own g o (by rw[←he];exact a7),
  fun g fb n n' v v' bl J U=>h.oinj g fb n n' v v' bl (by rw[←he];exact J) (by rw[←he];exact U),fun g k n v bl J U=>h.obx g k n v bl (by rw[←he];exact J) (by rw[←ae];exact U),h.one,
  fun bl aN=>h.otr bl (aN.imp (fun⟨k,bE,a2⟩=>⟨k,by rw[←ae];exact bE,a2⟩) (fun⟨g,n,v,bE,a2⟩=>⟨g,n,v,by rw[←he];exact bE,a2⟩))⟩
theorem Qa{P:cC}(hm:P.follows .mixedOrders=true){bB:List (Nat×dB)}(aN:fN P bB=true){C:fa}{q:Bool}{nw:List Nat}{id:Nat}{ops:Array Oper}{gs:List c2}(ki:kd C.N bB ops.toList gs ops.toList=true)(Es:AL gs ops.toList=true)(iB:yA C.N gs=true)
  {K:bq→Prop} {Q:Exit→Act→World→Prop} (hT:∀st' bn w' bp,K st'→cP C st' bn w' bp→Q .normal bn w') {st:bq} {a:Act} {w:World} {ν:bd} (aed:∀j∈nw,.obj j∉st.o) (he:hH P q nw st.n gs st (sY (st.n+C.N) (nw.map aH.obj++st.o) K)) (aL:cP C st a w ν):(Code.region id ops true).wp P Q a w:=by
 refine wp_region_any hm ?_;have dE:cP C st a {w with drawn:=w.drawn+1} ν:=aL.drawn _;let A:df:=⟨fun i=>get i st.t,fun k=>look k st.b,fun k=>look k st.e,fresh st.n st.o⟩
 have q2:rT nw st.n C.N st.o st A:=⟨⟨fun _=>rfl,fun _=>rfl,fun _=>rfl⟩,rfl,fun k ad _=>ad,fun k ad=>.inl ad⟩;have sb:=A2 gs 0 iB st A q2 (fun j af _ _=>⟨trivial,aed j af⟩) he;have n4:∀j,(Array.replicate ops.size false).getD j false=false:=fun j=>by simp[Array.getD_eq_getD_getElem?,Array.getElem?_replicate];split<;>rfl
 refine XJ aN ki Es (q:=q) (n0:=st.n) (K:=fun gf=> ∃st',sY (st.n+C.N) (nw.map aH.obj++st.o) K st'∧rT nw st.n C.N st.o st' gf) ?_ ops.size _ A a _ (by simp) ?_ ?_ (by rw[Lx gs _ 0 n4];exact sb) ⟨st,ν,q2.like,fun k ad=>ad,dE⟩
 ·rintro gf bn w' ⟨st',ad,bF⟩ ⟨arp,bp,n3,Bk,mh⟩;refine hT _ bn w' bp ad ⟨mh.good.like (fun k=>by rw[n3.b,←bF.like.b]) (fun k=>by rw[n3.e,←bF.like.e]),mh.fr,mh.defers,mh.size,fun i=>?_,fun k y2=>?_⟩
  ·have:=mh.slot i;rw[n3.t,←bF.like.t]at this;exact this
  ·refine mh.new k (Bk k (bF.F k ?_ fun j af e=>y2.2 (by subst e;exact List.mem_append_left _ (List.mem_map_of_mem af))));simp only at y2;refine⟨(IB (Nat.le_add_right st.n C.N) (fun _ h=>h) y2).1,fun jt=>?_⟩;rcases bF.o k jt with h|⟨d,aQ,rfl⟩|⟨j,af,rfl⟩;rotate_left 2
   ·exact y2.2 (List.mem_append_left _ (List.mem_map_of_mem af))
   ·exact y2.2 (List.mem_append_right _ h)
   ·have:=y2.1;simp at this;omega
 ·intro k o ad au;rw[n4]at au;cases au
 ·rw[Lx gs _ 0 n4];have:∀(gs:List c2) k,(yc k gs).length=gs.length:=by
   intro gs;induction gs with
   |nil=>intro k;rfl
   |cons g r bT=>intro k;simp[yc,bT]
  rw[this];have:=IP ki;simp at this;omega
def et:List ah→Prop
 |[]=>True
 |p::ct=>(match p with| .slice _ _ xs=>xs.length≤lim| .str s=>s.length≤lim|_=>True)∧et ct
def ec:ah→Prop
 | .slice _ _ xs=>xs.length≤lim
 | .str s=>s.length≤lim
 | .agg cs=>et cs
 |_=>True
def eB:List ah→Prop
 |[]=>True
 |p::r=>ec p∧eB r
theorem LA{w:World}{ν:bd}:∀{cs:List ah} {us:List Value},c5 w ν cs us→et cs
 |[],_,_=>trivial
 |c::cs,us,h=>by
  simp only[c5]at h;obtain⟨u,cg,_,J,U⟩:=h;refine⟨?_,LA U⟩;cases c<;>simp only<;>have ao:=J.1<;>simp only[ba]at ao
  ·exact ao.2
  ·obtain⟨⟨a,cap,_,_,a8,_⟩,_⟩:=ao;exact a8.2
theorem Vs{w:World}{ν:bd}{cs:List ah}{us:List Value}(h:iY w ν cs us):hM cs=true→et cs:=fun bJ=>by rw[ub bJ]at h;exact LA h
theorem VE{w:World}{ν:bd}{p:ah}{v:Value}(h:ba w ν p v):ec p:=by
 cases p<;>simp only[ec]<;>simp only[ba]at h
 ·exact h.2
 ·obtain⟨⟨a,cap,_,_,a8,_⟩,_⟩:=h;exact a8.2
 ·obtain⟨us,_,U⟩:=h;exact LA U
theorem VC{w:World}{ν:bd}:∀{cs:List ah} {us:List Value},cN w ν cs us→eB cs
 |[],_,_=>trivial
 |c::cs,us,h=>by simp only[cN]at h;obtain⟨u,cg,_,J,U⟩:=h;exact⟨VE J,VC U⟩
inductive C where
 |skip
 |region (gs:List c2)
 |drawn (q:Bool) (N:Nat) (gs:List c2)
 |drawnW (nw:List Nat) (N:Nat) (gs:List c2)
 |seq (a b:C)
 |cond (x:dr) (t e:C)
 |block (id:Nat) (c:C)
 |loop (c:C)
 |exit (id:Nat)
 |ret
 |pub (s:Nat) (c:C)
 |pubB (s:Nat) (c:C)
 |fg (o1:Bool) (s:Nat) (c:C)
 |fz (agg:Bool) (s:Nat) (c:C)
 |no
def CG(st:bq):ah→aY (ah×List (aH×fM))
 | .row sz k n=>match look k st.e with
  |some ⟨n',el,dF,some xs⟩=>if n'=n∧dF=sz then some (.slice sz (.own k) xs,cx k ⟨n,el,sz,none⟩ st.e)else none
  |_=>none
 |_=>none
def vI(st:bq)(s:Nat):aY bq:=
 match CG st (get s st.t)with
 |some (p,e)=>some {st with t:=put s p st.t,e:=e}
 |none=>none
def vH(st:bq)(s:Nat):aY bq:=
 match get (s%1000) st.t with
 | .ptr k off=>match look k st.b with
  |some cs=>match cs[off+s/1000]? with
   |some p=>match CG st p with
    |some (zN,e)=>if hM cs then some {st with b:=cx k (cs.set (off+s/1000) zN) st.b,e:=e}else none
    |none=>none
   |none=>none
  |none=>none
 |_=>none
theorem Lw{C:fa}{st:bq}{a:Act}{w:World}{ν:bd}(h:cP C st a w ν){s:Nat}{p:ah}(ag:ba w ν p (a.tmps.getD s undef)):cP C {st with t:=put s p st.t} a w ν:=by
 refine⟨h.good,h.fr,h.defers,h.size,fun i=>?_,h.new⟩;have:=h.slot i;simp only[oU];split
 ·rename_i e;subst e;exact ag
 ·exact this
theorem Uz{C:fa}{st:bq}{a:Act}{w:World}{ν:bd}(h:cP C st a w ν){p zN:ah}{e:List (aH×fM)}{v:Value}(bJ:ba w ν p v)(he:CG st p=some (zN,e)):
  ∃bp,cP C {st with e:=e} a w bp∧ba w bp zN v∧k9 w ν w bp:=by
 unfold CG at he;split at he
 ·rename_i sz k n;split at he
  ·rename_i n' el dF xs ad;split at he
   ·rename_i ax;obtain⟨rfl,rfl⟩:=ax;cases he;simp only[ba]at bJ;obtain⟨_,au,n0,u,J,U,ao⟩:=bJ;obtain⟨v0,fq,a6,bu,bV,cW⟩:=h.good.own k _ ad;rw[J]at a6;simp only[dG,jj]at a6;obtain⟨rfl,rfl⟩:=a6;have aJ:v=u:=ao rfl;subst aJ;obtain⟨da,_,_⟩:=cW xs rfl;simp only at da;obtain⟨g1,g2⟩:=h.publish ad rfl J (by rw[da];exact au);refine⟨_,g1,g2,⟨fun b o bg=>⟨.inl bg,rfl⟩,fun j b _ af=>af,fun g n u _ iC=>⟨n,u,?_,.inl ⟨rfl,rfl⟩⟩,fun _ _ _=>rfl,fun _ _ _ _ h=>h⟩⟩;simp only[bd.withRowOf];split
    ·rename_i e;subst e;rw[J]at iC;exact iC
    ·exact iC
   ·cases he
  ·cases he
 ·cases he
def yG(o1:Bool):ah→ah
 | .slice sz tag xs=>.slice sz (if o1 then tag else .no) (cY xs)
 |p=>ds p
theorem abZ{w:World}{ν:bd}{o1:Bool}{p:ah}{v:Value}(h:ba w ν p v):ba w ν (yG o1 p) v:=by
 have J:=xU p v h;cases p with
 |slice sz tag xs=>
  simp only[yG];cases o1 with
  |false=>simpa only[gP,if_false,ds]using J
  |true=>
   simp only[if_true];simp only[ba,ds]at h J⊢;refine⟨J.1,fun e=>h.2.1 e,fun g e=>?_,fun k j e=>?_,fun k e=>?_⟩
   ·obtain⟨n,u,ak,aB,bj⟩:=h.2.2.1 g e;exact⟨n,u,ak,by rw[uu];exact aB,by rw[uu];exact bj⟩
   ·exact QM _ _ (h.2.2.2.1 k j e)
   ·exact QM _ _ (h.2.2.2.2 k e)
 |_=>exact J
theorem aiA{C:fa}{st st':bq}{a:Act}{w:World}{ν:bd}(h:cP C st a w ν){s:Nat}(he:vI st s=some st'):∃bp,cP C st' a w bp:=by
 unfold vI at he;split at he
 ·rename_i p e bJ;cases he;obtain⟨bp,J,U,_⟩:=Uz h (h.slot s) bJ;exact⟨_,Lw J U⟩
 ·cases he
theorem Vz{w:World}{ν:bd}:∀{cs:List ah} {us:List Value} {i:Nat} {p q:ah} {v:Value},c5 w ν cs us→cs[i]? =some p→us[i]? =some v→ba w ν q v→c5 w ν (cs.set i q) us
 |[],_,_,_,_,_,_,h,_,_=>by simp at h
 |c::cs,us,0,p,q,v,h,_,aJ,bo=>by simp only[c5]at h;obtain⟨u,cg,rfl,J,U⟩:=h;simp only[List.getElem?_cons_zero,dG]at aJ;subst aJ;simp only[List.set_cons_zero,c5];exact⟨_,_,rfl,⟨bo,J.2⟩,U⟩
 |c::cs,us,i+1,p,q,v,h,bJ,aJ,bo=>by simp only[c5]at h;obtain⟨u,cg,rfl,J,U⟩:=h;simp only[List.set_cons_succ,c5];exact⟨_,_,rfl,J,Vz U (by simpa using bJ) (by simpa using aJ) bo⟩
theorem aiz{C:fa}{st st':bq}{a:Act}{w:World}{ν:bd}(h:cP C st a w ν){s:Nat}(he:vH st s=some st'):∃bp,cP C st' a w bp:=by
 unfold vH at he;split at he
 ·rename_i k agu ad;generalize agu+s/1000=off at he;split at he
  ·rename_i cs dq;split at he
   ·rename_i p bJ;split at he
    ·rename_i zN e EM;split at he
     ·rename_i sl;cases he;obtain⟨bl,us,el,g1,g2,g3,g4,g5⟩:=h.good.box k cs dq;rw[ub sl]at g5;have bC:off<us.toList.length:=by rw[o7 g5];exact(fL.1 bJ).1
      obtain⟨v,aJ⟩:∃v,us.toList[off]? =some v:=⟨_,cf bC⟩;have zb:ba w ν p v:=by have:=z8 off g5;rw[k7 (fL.1 bJ).1,k7 bC]at this;simp only[c5]at this;obtain⟨u,cg,ak,aB,_⟩:=this;rw[(fL.1 bJ).2]at aB;rw[(fL.1 aJ).2]at ak;cases ak;exact aB.1
      obtain⟨bp,J,U,ao⟩:=Uz h zb EM;have vf:c5 w bp (cs.set off zN) us.toList:=Vz (Vy ao g5) bJ aJ U;have R0:=Ab vf;refine⟨bp,⟨J.good.alt,fun j eH af=>?_,fun j dA b af jf=>J.good.inj j dA b ?_ ?_,J.good.own,J.good.oinj,fun g j n v b a7 af=>J.good.obx g j n v b a7 ?_,J.good.one,fun bl ae=>J.good.otr bl (ae.imp (fun⟨bM,bE,a2⟩=>⟨bM,by rw[iG]at bE;split at bE;(rename_i e;subst e;simp[dq]);exact bE,a2⟩) id)⟩,J.fr,J.defers,J.size,J.slot,J.new⟩
      ·simp only at af;rw[iG]at af;split at af
       ·rename_i e;subst e;cases af;obtain⟨ic,cg,fP,f1,f2,f3,f4,f5⟩:=J.good.box k cs dq;have:ic=bl:=by have:=ao.bx k bl trivial g1;rw[this]at f1;cases f1;rfl
        subst this;rw[ua sl]at g4 f4;rw[g4]at f4;injection f4 with f4;injection f4 with f4 f6 f7;refine⟨ic,us,el,f1,f2,f3,by rw[ua R0];exact g4,by rw[ub R0];exact vf⟩
       ·exact J.good.box j eH af
      ·simp only at af;rw[iG]at af;split at af
       ·rename_i e;subst e;simp[dq]
       ·exact af
      ·simp only at jf;rw[iG]at jf;split at jf
       ·rename_i e;subst e;simp[dq]
       ·exact jf
      ·simp only at af;rw[iG]at af;split at af
       ·rename_i e;subst e;simp[dq]
       ·exact af
     ·cases he
    ·cases he
   ·cases he
  ·cases he
 ·cases he
def r2{α:Type}(k:aH)(l:List (aH×α)):List (aH×α):=match l with
 |[]=>[]
 |(i,x)::r=>if i=k then r2 k r else(i,x)::r2 k r
theorem Kc{α:Type}(k j:aH):∀l:List (aH×α),look j (r2 k l)=if j=k then none else look j l
 |[]=>by simp[r2,look]
 |(i,x)::r=>by
  simp only[r2];by_cases h:i=k
  ·subst h;rw[if_pos rfl,Kc i j r];by_cases U:j=i
   ·simp[U]
   ·have:¬i=j:=fun e=>U e.symm;simp[look,U,this]
  ·rw[if_neg h];simp only[look];by_cases U:i=j
   ·subst U;simp[h]
   ·simp only[U,if_false];exact Kc k j r
def IE(agg:Bool):List ah→aY ah
 |[p]=>if agg then some (.agg [p])else some p
 |cs=>if agg then some (.agg cs)else none
def uV(st:bq)(agg:Bool)(s:Nat):aY bq:=
 match get s st.t with
 | .ptr k 0=>match look k st.b with
  |some cs=>if hM cs then match IE agg cs with
    |some x=>some {st with t:=put s (.eptr x) st.t,b:=r2 k st.b}
    |none=>none
   else none
  |none=>none
 |_=>none
theorem aio{u:Value}(h:u.oneCell'=true):u.cells.toList=[u]:=by cases u<;>first|rfl|(simp[Value.oneCell']at h)
theorem Tj{w:World}{A:Nat→Nat→Prop}{b:Nat}{us:Array Value}{el:fT}(ae:w.heap[b]? =some (.cells us el))(bg:∀o,o<us.size→A b o):∀(bc:List Value) (off:Nat),us.toList.drop off=bc→lv w A b off bc
 |[],_,_=>trivial
 |v::bc,off,h=>by
  have bC:off<us.toList.length:=by
   rcases Nat.lt_or_ge off us.toList.length with J|J
   ·exact J
   ·rw[List.drop_eq_nil_of_le J]at h;cases h
  have U:=k7 bC;rw[h]at U;injection U with U ao;refine⟨⟨bg off (by simpa using bC),?_⟩,Tj ae bg bc (off+1) ao.symm⟩;have va:off<us.size:=by simpa using bC
  simp only[World.cell?,ae,j6,gP,if_false];rw[U];simp[va]
theorem acd{C:fa}{st st':bq}{a:Act}{w:World}{ν:bd}(h:cP C st a w ν){agg:Bool}{s:Nat}(he:uV st agg s=some st'):∃bp,cP C st' a w bp:=by
 unfold uV at he;split at he
 ·rename_i k ad;split at he
  ·rename_i cs dq;split at he
   ·rename_i sl;split at he
    ·rename_i x ab;cases he;obtain⟨bl,us,el,g1,g2,g3,g4,g5⟩:=h.good.box k cs dq;rw[ub sl]at g5;rw[ua sl]at g4;have bC:bl<w.heap.size:=by
      rcases Nat.lt_or_ge bl w.heap.size with J|J
      ·exact J
      ·rw[Array.getElem?_eq_none J]at g4;cases g4
     let bp:bd:={ν with A:=fun b o=>ν.A b o∨(b=bl∧o<us.size)}
     have aw:k9 w ν w bp:=⟨fun b o bg=>⟨.inl bg,rfl⟩,fun j b _ af=>af,fun g n u _ iC=>⟨n,u,iC,.inl ⟨rfl,rfl⟩⟩,fun _ _ _=>rfl,fun _ _ _ _ h=>h⟩;have hU:∀j eH,look j (r2 k st.b)=some eH→j≠k∧look j st.b=some eH:=fun j eH af=>by
      rw[Kc]at af;split at af
      ·cases af
      ·rename_i e;exact⟨e,af⟩
     have EF:∀j,(look j (r2 k st.b)).isSome→(look j st.b).isSome:=fun j af=>by obtain⟨eH,iB⟩:=fG.1 af;simp[(hU j eH iB).2]
     have qk:∀(g:aH) (n:Nat) (v:Value),(look g st.e).isSome→ν.ow g=some (n,v)→v.ownBlock=some bl→eQ:=fun g n v J U ao=>h.good.obx g k n v bl J (by simp[dq]) U ao g1;have lW:ba w bp (.eptr x) (a.tmps.getD s undef):=by
      have ag:=h.slot s;rw[ad]at ag;simp only[ba]at ag⊢;obtain⟨bO,a6,bu⟩:=ag;rw[g1]at a6;cases a6;have au:lv w bp.A bl 0 us.toList:=Tj g4 (fun o aw=>.inr ⟨rfl,aw⟩) _ 0 rfl;have g6:c5 w bp cs us.toList:=Vy aw g5;unfold IE at ab;split at ab
      ·rename_i p;simp only[c5]at g6;obtain⟨u,cg,ak,aB,bj⟩:=g6;subst bj;split at ab
       ·cases ab;exact⟨bl,0,.agg us,bu,by simp only[ba];exact⟨us,rfl,by rw[ak];simp only[c5];exact⟨u,[],rfl,aB,rfl⟩⟩,by simpa[pc]using au⟩
       ·cases ab;refine⟨bl,0,u,bu,aB.1,?_⟩;rw[aio aB.2,←ak];exact au
      ·split at ab
       ·cases ab;exact⟨bl,0,.agg us,bu,by simp only[ba];exact⟨us,rfl,g6⟩,by simpa[pc]using au⟩
       ·cases ab
     refine⟨bp,Lw (ν:=bp) (st:={st with b:=r2 k st.b}) ⟨⟨fun b o bg=>?_,fun j eH af=>?_,fun j dA b J U=>h.good.inj j dA b (EF j J) (EF dA U),fun g o a7=>?_,h.good.oinj,fun g j n v b J U=>h.good.obx g j n v b J (EF j U),h.good.one,fun b aN=>h.good.otr b (aN.imp (fun⟨j,bE,a2⟩=>⟨j,EF j bE,a2⟩) id)⟩,⟨h.fr.os,h.fr.tape,h.fr.output,h.fr.size,h.fr.block,fun b o bg=>⟨.inl (h.fr.keep b o bg).1,(h.fr.keep b o bg).2⟩,fun b o bg=>?_,h.fr.obj,h.fr.obn,h.fr.row,h.fr.obr,h.fr.trd,h.fr.trb,h.fr.trn,h.fr.sh⟩,h.defers,h.size,fun i=>xT aw (h.slot i),h.new⟩ lW⟩
     ·rcases bg with bg|⟨rfl,_⟩
      ·exact h.good.alt b o bg
      ·exact bC
     ·obtain⟨cF,jf⟩:=hU j eH af;obtain⟨ic,cg,fP,f1,f2,f3,f4,f5⟩:=h.good.box j eH jf;refine⟨ic,cg,fP,f1,f2,fun o bg=>?_,f4,pU aw f5⟩;rcases bg with bg|⟨rfl,_⟩
      ·exact f3 o bg
      ·exact cF (h.good.inj j k _ (by simp[jf]) (by simp[dq]) f1 g1)
     ·obtain⟨v0,fq,ak,aB,bj,de⟩:=h.good.own g o a7;have uY:∀b,v0.ownBlock=some b→∀j,bp.A b j→ν.A b j:=fun b ae j bg=>by
       rcases bg with bg|⟨rfl,_⟩
       ·exact bg
       ·exact(qk g _ v0 (by simp[a7]) ak ae).elim
      exact⟨v0,fq,ak,aB,fun b ae=>⟨(bj b ae).1,fun j bg=>(bj b ae).2 j (uY b ae j bg)⟩,rF aw uY de⟩
     ·rcases bg with bg|⟨rfl,_⟩
      ·exact h.fr.fresh b o bg
      ·exact .inr g2
    ·cases he
   ·cases he
  ·cases he
 ·cases he
def rE(st:bq)(x:dr)(b:Bool):bq:=match x with
 | .t i=>{st with t:=put i (.bool b) st.t}
 | .c _=>st
def cU(P:cC)(ob:List aH):C→(Exit→bq→Prop)→bq→Prop
 | .skip,Q,st=>Q .normal st
 | .region gs,Q,st=>hR P gs st (Q .normal)
 | .drawn q N gs,Q,st=>hH P q [] st.n gs st (sY (st.n+N) st.o (Q .normal))
 | .drawnW nw N gs,Q,st=>(∀j∈nw,.obj j∉st.o)∧hH P false nw st.n gs st (sY (st.n+N) (nw.map aH.obj++st.o) (Q .normal))
 | .seq a b,Q,st=>cU P ob a (fun e st'=>match e with| .normal=>cU P ob b Q st'|e=>Q e st') st
 | .cond x t e,Q,st=>match ck st.t x with
  | .bool b=>(b=true→cU P ob t Q (rE st x true))∧(b=false→cU P ob e Q (rE st x false))
  |_=>eQ
 | .block id c,Q,st=>cU P ob c (fun e st'=>match e with| .exit j=>if j=id then Q .normal st' else Q (.exit j) st'|e=>Q e st') st
 | .loop c,Q,st=> ∃(gR:Nat→bq→Prop) (m:Nat) (vR:bq),iy ob st vR∧gR m vR∧
   ∀k s,gR k s→(∀i,ec (get i s.t))→(∀j cs,look j s.b=some cs→hM cs=true→et cs)→cU P ob c (fun e ai=>match e with| .normal=> ∃bM oj,bM<k∧iy ob ai oj∧gR bM oj|e=>Q e ai) s
 | .exit id,Q,st=>Q (.exit id) st
 | .ret,Q,st=>Q .ret st
 | .pub s c,Q,st=>match vI st s with
  |some st'=>cU P ob c Q st'
  |none=>eQ
 | .pubB s c,Q,st=>match vH st s with
  |some st'=>cU P ob c Q st'
  |none=>eQ
 | .fg o1 s c,Q,st=>cU P ob c Q {st with t:=put s (yG o1 (get s st.t)) st.t}
 | .fz e1 s c,Q,st=>match uV st e1 s with
  |some st'=>cU P ob c Q st'
  |none=>eQ
 | .no,_,_=>eQ
def ho(N:Nat)(bB:List (Nat×dB)):C→Code→Bool
 | .skip,.skip=>true
 | .region gs,.region _ ops false=>kd N bB ops.toList gs ops.toList
 | .drawn _ N' gs,.region _ ops true=>N'==N&&kd N bB ops.toList gs ops.toList&&AL gs ops.toList&&yA N gs
 | .drawnW _ N' gs,.region _ ops true=>N'==N&&kd N bB ops.toList gs ops.toList&&AL gs ops.toList&&yA N gs
 | .seq a b,.seq x y=>ho N bB a x&&ho N bB b y
 | .cond x t e,.cond o dJ fJ=>eg x o&&ho N bB t dJ&&ho N bB e fJ
 | .block id c,.block BY cm=>id==BY&&ho N bB c cm
 | .loop c,.loop cm=>ho N bB c cm
 | .exit id,.exit BY=>id==BY
 | .ret,.ret=>true
 | .pub _ c,cm=>ho N bB c cm
 | .pubB _ c,cm=>ho N bB c cm
 | .fg _ _ c,cm=>ho N bB c cm
 | .fz _ _ c,cm=>ho N bB c cm
 | .no,_=>true
 |_,_=>false
theorem Q7{N:Nat}{bB:List (Nat×dB)}{ops:List Oper}:∀{gs:List c2} {os:List Oper},kd N bB ops gs os=true→gs.length=os.length
 |[],[],_=>rfl
 |[],_::_,h=>by simp[kd]at h
 |_::_,[],h=>by simp[kd]at h
 |g::gs,o::os,h=>by simp only[kd,cA]at h;simp[Q7 h.2]
def Xj(P:cC)(C:fa)(c:Code)(Q:Exit→bq→Prop)(st:bq):Prop:= ∀a w ν,cP C st a w ν→c.wp P (fun e bn w'=> ∃st' bp,Q e st'∧cP C st' bn w' bp) a w
theorem qS{P:cC}(hm:P.follows .mixedOrders=true){bB:List (Nat×dB)}(aN:fN P bB=true){X:fa}:∀(c:C) (code:Code) (Q:Exit→bq→Prop) (st:bq),ho X.N bB c code=true→cU P X.ob c Q st→Xj P X code Q st
 | .skip,code,Q,st,aw,he=>by
  cases code<;>simp only[ho]at aw<;>try cases aw
  intro a w ν aL;exact wp_skip ⟨st,ν,he,aL⟩
 | .region gs,code,Q,st,aw,he=>by
  cases code<;>try(simp[ho]at aw;done)
  rename_i id ops draw;cases draw<;>simp only[ho]at aw
  ·intro a w ν aL;refine wp_region ?_;have au:gs.length=ops.size:=by simpa using Q7 aw
   rw[List.range_eq_range',←au];exact Qb aN (K:=Q .normal) (fun st' bn w' bp J U=>⟨st',bp,J,U⟩) gs ops.toList 0 (by simp) aw st a w ν he aL
  ·cases aw
 | .drawn q N gs,code,Q,st,aw,he=>by
  cases code<;>try(simp[ho]at aw;done)
  rename_i id ops draw;cases draw<;>simp only[ho]at aw
  ·cases aw
  ·simp only[cA,dL]at aw;obtain⟨⟨⟨rfl,J⟩,U⟩,ao⟩:=aw;intro a w ν aL;exact Qa hm aN J U ao (nw:=[]) (K:=Q .normal) (fun st' bn w' bp J U=>⟨st',bp,J,U⟩) (by simp) he aL
 | .drawnW nw N gs,code,Q,st,aw,he=>by
  cases code<;>try(simp[ho]at aw;done)
  rename_i id ops draw;cases draw<;>simp only[ho]at aw
  ·cases aw
  ·simp only[cA,dL]at aw;obtain⟨⟨⟨rfl,J⟩,U⟩,ao⟩:=aw;intro a w ν aL;exact Qa hm aN J U ao (nw:=nw) (K:=Q .normal) (fun st' bn w' bp J U=>⟨st',bp,J,U⟩) he.1 he.2 aL
 | .seq x y,code,Q,st,aw,he=>by
  cases code<;>try(simp[ho]at aw;done)
  rename_i oM lb;simp only[ho,cA]at aw;intro a w ν aL;refine wp_seq ?_;have J:=qS hm aN x oM _ st aw.1 he a w ν aL;refine wp_mono J fun e bn w' cO=>?_;obtain⟨st',bp,bo,dE⟩:=cO;cases e with
  |normal=>exact qS hm aN y lb Q st' aw.2 bo bn w' bp dE
  |_=>exact⟨st',bp,bo,dE⟩
 | .cond x t e,code,Q,st,aw,he=>by
  cases code<;>try(simp[ho]at aw;done)
  rename_i o YV ce;simp only[ho,cA]at aw;intro a w ν aL;simp only[cU]at he;have ab:=eh aL aw.1.1;split at he
  ·rename_i b ae;rw[ae]at ab;simp only[ba]at ab;have BP:cP X (rE st x b) a w ν:=by
    unfold rE;split
    ·exact Lv aL (by simpa[ck]using ae)
    ·exact aL
   refine wp_cond ab ?_;cases b
   ·exact qS hm aN e ce Q _ aw.2 (he.2 rfl) a w ν BP
   ·exact qS hm aN t YV Q _ aw.1.2 (he.1 rfl) a w ν BP
  ·exact he.elim
 | .block id c,code,Q,st,aw,he=>by
  cases code<;>try(simp[ho]at aw;done)
  rename_i BY cm;simp only[ho,cA,dL]at aw;obtain⟨rfl,aw⟩:=aw;intro a w ν aL;refine wp_block ?_;refine wp_mono (qS hm aN c cm _ st aw he a w ν aL) fun e bn w' cO=>?_;obtain⟨st',bp,bo,dE⟩:=cO;cases e with
  |exit j=>
   simp only[Exit.inBlock]at bo⊢;by_cases af:j=id
   ·rw[if_pos af]at bo⊢;exact⟨st',bp,bo,dE⟩
   ·rw[if_neg af]at bo⊢;exact⟨st',bp,bo,dE⟩
  |_=>exact⟨st',bp,bo,dE⟩
 | .loop c,code,Q,st,aw,he=>by
  cases code<;>try(simp[ho]at aw;done)
  rename_i cm;simp only[ho]at aw;intro a w ν aL;simp only[cU]at he;obtain⟨gR,m,vR,hw,hi,jv⟩:=he;refine wp_loop_ghost (fun k a w=> ∃s ν,gR k s∧cP X s a w ν) m ⟨vR,_,hi,aL.weaker hw⟩ ?_;intro k a w ac9;obtain⟨s,ν,ag,BQ⟩:=ac9;have J:=jv k s ag (fun i=>VE (BQ.slot i)) (fun j cs af=>by obtain⟨bl,us,el,_,_,_,_,g5⟩:=BQ.good.box j cs af;exact Vs g5);refine wp_mono (qS hm aN c cm _ s aw J a w ν BQ) fun e bn w' cO=>?_;obtain⟨st',bp,bo,dE⟩:=cO;cases e with
  |normal=>obtain⟨bM,oj,ak,aB,bj⟩:=bo;exact⟨bM,ak,oj,_,bj,dE.weaker aB⟩
  |_=>exact⟨st',bp,bo,dE⟩
 | .exit id,code,Q,st,aw,he=>by
  cases code<;>try(simp[ho]at aw;done)
  rename_i BY;simp only[ho,dL]at aw;subst aw;intro a w ν aL;exact wp_exit ⟨st,ν,he,aL⟩
 | .ret,code,Q,st,aw,he=>by
  cases code<;>try(simp[ho]at aw;done)
  intro a w ν aL;exact wp_ret ⟨st,ν,he,aL⟩
 | .pub s c,code,Q,st,aw,he=>by
  simp only[ho]at aw;simp only[cU]at he;split at he
  ·rename_i st' ag;intro a w ν aL;obtain⟨bp,J⟩:=aiA aL ag;exact qS hm aN c code Q st' aw he a w bp J
  ·exact he.elim
 | .pubB s c,code,Q,st,aw,he=>by
  simp only[ho]at aw;simp only[cU]at he;split at he
  ·rename_i st' ag;intro a w ν aL;obtain⟨bp,J⟩:=aiz aL ag;exact qS hm aN c code Q st' aw he a w bp J
  ·exact he.elim
 | .fg o1 s c,code,Q,st,aw,he=>by simp only[ho]at aw;simp only[cU]at he;intro a w ν aL;exact qS hm aN c code Q _ aw he a w ν (Lw aL (abZ (aL.slot s)))
 | .fz e1 s c,code,Q,st,aw,he=>by
  simp only[ho]at aw;simp only[cU]at he;intro a w ν aL;split at he
  ·rename_i st' dd;obtain⟨bp,J⟩:=acd aL dd;exact qS hm aN c code Q st' aw he a w bp J
  ·exact he.elim
 | .no,code,Q,st,aw,he=>by simp only[cU]at he
inductive bs where
 |tmp (i:Nat)
 |cell (i:Nat) (agg:Bool) (sz:Nat)
def aZ(st:bq):bs→aY (Prop×ah)
 | .tmp i=>some (True,get i st.t)
 | .cell i agg sz=>mu st.b st.e agg sz (get i st.t)
def aX(st:bq):List bs→aY (Prop×List ah)
 |[]=>some (True,[])
 |r::fe=>match aZ st r,aX st fe with
  |some (c,p),some (cm,ct)=>some (c∧cm,p::ct)
  |_,_=>none
def qA(bB:List (Nat×dB)):List bs→List ResultVar→Bool
 |[],[]=>true
 | .tmp i::fe,.tmp j::os=>i==j&&qA bB fe os
 | .cell i agg sz::fe,.cell j t::os=>i==j&&(match dV bB t with|some f=>f.size==sz&&f.kind.isAgg==agg|none=>false)&&qA bB fe os
 |_,_=>false
def aW:List ah→ah
 |[p]=>p
 |ct=>.tuple ct
def Gr(tmps:Array Value):ResultVar→Sem Value
 | .tmp t=>pure (tmps.getD t undef)
 | .cell x t=>do loadVar t (←asAddr (tmps.getD x undef))
theorem ajQ(fn:Func)(tmps:Array Value):results fn tmps=(do let bc←fn.results.mapM (Gr tmps);pure (if h:bc.size=1 then bc[0]else .tuple bc)):=by unfold results;congr 2
theorem LD{P:cC}{bB:List (Nat×dB)}(aN:fN P bB=true){X:fa}{st:bq}{a:Act}{w:World}{ν:bd}(aL:cP X st a w ν):
  ∀(fe:List bs) (os:List ResultVar) (c:Prop) (ct:List ah),qA bB fe os=true→aX st fe=some (c,ct)→c→
  ∃bc,(os.mapM (Gr a.tmps)).run P w= .ok bc w∧cN w ν ct bc
 |[],[],c,ct,_,he,_=>by simp only[aX]at he;cases he;exact⟨[],by simp,by simp[cN]⟩
 |[],_::_,_,_,aw,_,_=>by simp[qA]at aw
 | .tmp _::_,[],_,_,aw,_,_=>by simp[qA]at aw
 | .cell _ _ _::_,[],_,_,aw,_,_=>by simp[qA]at aw
 |r::fe,o::os,c,ct,aw,he,ax=>by
  simp only[aX]at he;split at he
  ·rename_i bI p ch Uy J U;cases he;cases r with
   |tmp i=>
    cases o with
    |cell _ _=>simp[qA]at aw
    |tmp j=>simp only[qA,cA,dL]at aw;obtain⟨rfl,aw⟩:=aw;simp only[aZ]at J;cases J;obtain⟨bc,g1,g2⟩:=LD aN aL fe os ch Uy aw U ax.2;refine⟨a.tmps.getD i undef::bc,?_,by simp only[cN];exact⟨_,_,rfl,aL.slot i,g2⟩⟩;simp only[List.mapM_cons,fF,Gr,gp,fK,g1]
   |cell i agg sz=>
    cases o with
    |tmp _=>simp[qA]at aw
    |cell j t=>
     simp only[qA,cA,dL]at aw;obtain⟨⟨rfl,ao⟩,aw⟩:=aw;split at ao
     ·rename_i f aI;simp only[cA,dL]at ao;obtain⟨rfl,rfl⟩:=ao;simp only[aZ]at J;obtain⟨bc,g1,g2⟩:=LD aN aL fe os ch Uy aw U ax.2;obtain⟨v,f1,f2⟩:=Fm aN aL.good aI (aL.slot i) J ax.1;have BM:∃rW,a.tmps.getD i undef= .pointer (some rW):=by
       have ag:=aL.slot i;unfold mu at J;split at J
       ·rename_i dF k n vl qT ad;rw[ad]at ag;simp only[ba]at ag;obtain⟨⟨b,o,e⟩,_⟩:=ag;exact⟨_,e⟩
       ·rename_i k off ad;rw[ad]at ag;simp only[ba]at ag;obtain⟨b,_,e⟩:=ag;exact⟨_,e⟩
       ·rename_i q ad;rw[ad]at ag;simp only[ba]at ag;obtain⟨b,off,u,e,_⟩:=ag;exact⟨_,e⟩
       ·cases J
      obtain⟨rW,Bp⟩:=BM;rw[Bp]at f1;simp only[Instr.loadAt,Instr.sureAddr,fF,gp,fK]at f1;refine⟨v::bc,?_,by simp only[cN];exact⟨_,_,rfl,f2,g2⟩⟩;have adf:(asAddr (.pointer (some rW)):Sem Addr).run P w= .ok rW w:=rfl;simp only[List.mapM_cons,fF,Gr,gp,fK,g1,Bp,adf,f1]
     ·cases ao
  ·cases he
theorem CQ{w:World}{ν:bd}:∀{ct:List ah} {bc:List Value},cN w ν ct bc→bc.length=ct.length
 |[],bc,h=>by simp only[cN]at h;subst h;rfl
 |p::ct,bc,h=>by simp only[cN]at h;obtain⟨u,cg,rfl,_,U⟩:=h;simp[CQ U]
def j2:Nat→List ah→List (Nat×ah)
 |_,[]=>[]
 |i,p::ct=>(i,p)::j2 (i+1) ct
theorem IN:∀(ct:List ah) (i j:Nat),get j (j2 i ct)=if i≤j∧j<i+ct.length then ct.getD (j-i) .junk else .junk
 |[],i,j=>by simp[j2,get]
 |p::ct,i,j=>by
  simp only[j2,get];by_cases h:i=j
  ·subst h;simp
  ·rw[if_neg h,IN ct (i+1) j];by_cases U:i≤j∧j<i+(p::ct).length
   ·rw[if_pos U,if_pos (by simp at U⊢;omega)];have:j-i=(j-(i+1))+1:=by omega
    rw[this];simp
   ·rw[if_neg U,if_neg (by simp at U⊢;omega)]
def lY{α:Type}(ai:cJ):List (aH×α)→Prop
 |[]=>True
 |(k,_)::r=>inObs ai k∧lY ai r
theorem zp{α:Type}{ai:cJ}:∀{l:List (aH×α)},lY ai l→∀k,(look k l).isSome→inObs ai k
 |[],_,k,h=>by simp[look]at h
 |(i,x)::r,ad,k,h=>by
  simp only[lY]at ad;simp only[look]at h;split at h
  ·rename_i e;subst e;exact ad.1
  ·exact zp ad.2 k h
def cR(fe:List bs)(s:cJ)(Q:ah→cJ→Prop)(e:Exit)(st:bq):Prop:=
 (e= .ret∨e= .normal)∧match aX st fe with
  |some (c,ct)=>c∧∃ai,lY ai s.b∧lY ai s.e∧gy (inObs ai) ai.b st.b∧ot (inObs ai) ai.e st.e∧iH ai∧aC (inObs ai) (ds (aW ct))∧Q (ds (aW ct)) ai
  |none=>eQ
theorem bQ.of{P:cC}(hm:P.follows .mixedOrders=true){bB:List (Nat×dB)}(aN:fN P bB=true){f:FuncId}{fn:Func}(aI:P.funcs[f]? =some fn){code:Code}(ae:fn.body=some code)(BH:(fn.name== "runtime.NumGoroutine")=false){c:C}(ax:ho fn.ntmps bB c code=true){fe:List bs}(BQ:qA bB fe fn.results.toList=true)
  {args:List ah} (au:args.length≤fn.ntmps) {s:cJ} (oZ:iH s) {Q:ah→cJ→Prop} (he:eB args→(∀j cs,look j s.b=some cs→hM cs=true→et cs)→cU P (cS s) c (cR fe s Q) ⟨j2 0 args,s.b,s.e,0,cS s⟩):bQ P f args s Q:=by
 intro w ν bc a7 ab aL;refine .inl ⟨⟨fn,aI,by simp[ae],BH⟩,?_⟩;have pE:=CQ aL;have kH:bc.size=args.length:=by simpa using pE
 let X:fa:=⟨w,ν,fu ν s,fn.ntmps,cS s⟩
 have n4:∀k,fresh 0 (cS s) k→ν.bx k=none∧ν.ow k=none∧∀j b,¬ν.tr k j b:=by
  intro k ad;cases k with
  |loc m=>exact⟨(ab _).1 (oZ.1 m),(ab _).2.1 (oZ.2 m),(ab _).2.2⟩
  |obj m=>
   simp only[fresh,true_and]at ad;refine⟨?_,?_,(ab _).2.2⟩
   ·refine(ab _).1 ?_;cases h:look (.obj m) s.b with
    |none=>rfl
    |some x=>exact absurd (sF (.inl (by simp[h]))) ad
   ·refine(ab _).2.1 ?_;cases h:look (.obj m) s.e with
    |none=>rfl
    |some x=>exact absurd (sF (.inr (by simp[h]))) ad
 have je:∀m,(ν.bx (.obj m)≠none∨ν.ow (.obj m)≠none)→ .obj m∈cS s:=by
  intro m hm;refine Classical.byContradiction fun ax=>?_;obtain⟨J,U,_⟩:=n4 (.obj m) ⟨trivial,ax⟩;rcases hm with hm|hm
  ·exact hm J
  ·exact hm U
 have pC:cP X ⟨j2 0 args,s.b,s.e,0,cS s⟩ {tmps:=bc++Array.replicate (fn.ntmps-bc.size) undef,defers:=[]} w ν:=by
  refine⟨⟨a7.alt,fun k cs ad=>?_,a7.inj,fun g o eT=>?_,a7.oinj,a7.obx,a7.one,a7.otr⟩,⟨rfl,rfl,rfl,eR _,fun _ _ _=>rfl,fun b o h=>⟨h,rfl⟩,fun b o h=>.inl h,fun n b h=>h,fun n b h=>je n (.inl (by rw[h];simp)),fun m n u h=>⟨n,u,h,.inl ⟨rfl,rfl⟩⟩,fun m n u h=>je m (.inr (by rw[h];simp)),fun k j _ _ b h=>absurd h ((ab k).2.2 j b),fun k j b h=>absurd h ((ab k).2.2 j b),fun k j b h=>absurd h ((ab k).2.2 j b),fun _ _ _=>rfl⟩,rfl,?_,fun i=>?_,n4⟩
  ·obtain⟨bl,us,el,g1,g2,g3⟩:=a7.box k cs ad;exact⟨bl,us,el,g1,.inl g2,g3⟩
  ·obtain⟨v,us,g1,g2,g3,g4⟩:=a7.own g o eT;exact⟨v,us,g1,g2,fun bl fw=>⟨.inl (g3 bl fw).1,(g3 bl fw).2⟩,g4⟩
  ·show(bc++Array.replicate (fn.ntmps-bc.size) undef).size=fn.ntmps;simp;omega
  ·rw[IN];by_cases hi:i<args.length
   ·rw[if_pos (by omega)];have tB:args[i]? =some args[i]:=cf hi;obtain⟨v,ak,aB⟩:=Gi i aL tB;have aJ:(bc++Array.replicate (fn.ntmps-bc.size) undef).getD i undef=v:=by
     have H5:bc[i]? =some v:=by simpa using ak
     rw[Array.getD_eq_getD_getElem?,Array.getElem?_append_left (by omega),H5];rfl
    show ba w ν _ ((bc++Array.replicate (fn.ntmps-bc.size) undef).getD i undef);rw[aJ];simpa[List.getD,tB]using aB
   ·rw[if_neg (by omega)];simp[ba]
 have tw:=he (VC aL) (fun j cs af=>by obtain⟨bl,us,el,_,_,_,_,g5⟩:=a7.box j cs af;exact Vs g5);have aeK:=qS hm aN (X:=X) c code (cR fe s Q) _ ax tw _ w ν pC;refine calls_of_wp aI ae (wp_mono aeK fun e bn w' cO=>?_);obtain⟨st',bp,⟨tv,bo⟩,dE⟩:=cO;cases xd:aX st' fe with
 |none=>simp[xd]at bo
 |some x=>
  obtain⟨cm,ct⟩:=x;simp only[xd]at bo;obtain⟨hp,ai,kb,ke,a6,bu,bV,cW,da⟩:=bo;obtain⟨vP,g1,g2⟩:=LD aN dE fe fn.results.toList cm ct BQ xd hp;have aep:=CQ g2;have dD:bn.defers=[]∧∃v,(results fn bn.tmps).run P w'= .ok v w'∧(fun(e:Ending) w'=> ∃v r ai bp,e= .returned v∧Q r ai∧ba w' bp r v∧Good (fun bl=>fu ν s bl∨w.heap.size≤bl) w' bp ai.b ai.e∧oS bp ai∧iH ai∧p5 ⟨w,ν,fu ν s,0,cS s⟩ w' bp) (.returned v) w':=by
   refine⟨dE.defers,?_⟩;have iE:(results fn bn.tmps).run P w'= .ok (if h:vP.toArray.size=1 then vP.toArray[0]else .tuple vP.toArray) w':=by rw[ajQ];simp only[fF,Array.mapM_eq_mapM_toList,Sem.run_map,g1,fK,gp]
   refine⟨_,iE,_,ds (aW ct),ai,bp.cut (inObs ai),rfl,da,?_,dE.good.cut a6 bu (fun bl h _=>h),?_,bV,?_⟩
   ·have mi:ba w' bp (aW ct) (if h:vP.toArray.size=1 then vP.toArray[0]else .tuple vP.toArray):=by
     match ct,vP,g2,aep with
     |[p],[v],g2,_=>simp only[cN]at g2;obtain⟨u,cg,ak,aB,_⟩:=g2;cases ak;simpa[aW]using aB
     |[],[],g2,_=>simp[aW,ba,cN]
     |p::dn::ct,v::v2::vP,g2,_=>rw[dif_neg (by simp)];simp only[aW,ba];exact⟨_,rfl,by simpa using g2⟩
     |[_],[],_,h=>simp at h
     |[],_::_,_,h=>simp at h
     |[_],_::_::_,_,h=>simp at h
     |_::_::_,[],_,h=>simp at h
     |_::_::_,[_],_,h=>simp at h
    exact uj (oH.cut _ w' bp) _ _ cW (xU _ _ mi)
   ·intro k;refine⟨?_,?_,?_⟩;rotate_left 2
    ·rintro j b ⟨ag,ae⟩;obtain⟨t1,t2⟩:=dE.fr.trn k j b ae;rcases ag with ag|ag<;>obtain⟨x,h3⟩:=fG.1 ag
     ·obtain⟨bl,cg,el,ak,_⟩:=dE.good.box k x (a6 k x h3).1;rw[t1]at ak;cases ak
     ·obtain⟨v',cg,ak,_⟩:=dE.good.own k x (bu k x h3).1;rw[t2]at ak;cases ak
    ·intro ad;by_cases ag:inObs ai k
     ·rw[bd.cut_bx ag];rcases ag with ag|ag
      ·rw[ad]at ag;cases ag
      ·obtain⟨x,h3⟩:=fG.1 ag;obtain⟨v',cg,ak,_⟩:=dE.good.own k x (bu k x h3).1;rcases dE.good.one k with J|J
       ·exact J
       ·rw[J]at ak;cases ak
     ·exact(bd.cut_no ag).1
    ·intro ad;by_cases ag:inObs ai k
     ·rw[bd.cut_ow ag];rcases ag with ag|ag
      ·obtain⟨x,h3⟩:=fG.1 ag;obtain⟨bl,cg,el,ak,_⟩:=dE.good.box k x (a6 k x h3).1;rcases dE.good.one k with J|J
       ·rw[J]at ak;cases ak
       ·exact J
      ·rw[ad]at ag;cases ag
     ·exact(bd.cut_no ag).2.1
   ·refine⟨dE.fr.os,dE.fr.tape,dE.fr.output,dE.fr.size,dE.fr.block,dE.fr.keep,dE.fr.fresh,fun n b h=>?_,fun n b h=>je n (.inl (by rw[h];simp)),fun m n u h=>?_,fun m n u h=>je m (.inr (by rw[h];simp)),fun k j bM dA b J U=>dE.fr.trd k j bM dA b J.2 U.2,fun k j b ae=>dE.fr.trb k j b ae.2,fun k j b ae=>(by rw[bd.cut_bx ae.1,bd.cut_ow ae.1];exact dE.fr.trn k j b ae.2),dE.fr.sh⟩
    ·have ag:inObs ai (.obj n):=by
      cases au:look (.obj n) s.b with
      |none=>rw[(ab _).1 au]at h;cases h
      |some x=>exact zp kb _ (by simp[au])
     rw[bd.cut_bx ag];exact dE.fr.obj n b h
    ·have ag:inObs ai (.obj m):=by
      cases au:look (.obj m) s.e with
      |none=>rw[(ab _).2.1 au]at h;cases h
      |some x=>exact zp ke _ (by simp[au])
     rw[bd.cut_ow ag];exact dE.fr.row m n u h
  rcases tv with rfl|rfl<;>exact dD
def bY(bB:List (Nat×dB))(c:C)(fe:List bs)(agp:Nat)(fn:Func):Bool:=
 match fn.body with
 |some code=>ho fn.ntmps bB c code&&qA bB fe fn.results.toList&& !(fn.name== "runtime.NumGoroutine")&&decide (agp≤fn.ntmps)
 |none=>false
theorem bQ.mk{P:cC}(hm:P.follows .mixedOrders=true){bB:List (Nat×dB)}(aN:fN P bB=true){f:FuncId}{fn:Func}(aI:P.funcs[f]? =some fn){c:C}{fe:List bs}{n:Nat}(eW:bY bB c fe n fn=true)
  {args:List ah} (au:args.length≤n) {s:cJ} (oZ:iH s) {Q:ah→cJ→Prop} (he:eB args→(∀j cs,look j s.b=some cs→hM cs=true→et cs)→cU P (cS s) c (cR fe s Q) ⟨j2 0 args,s.b,s.e,0,cS s⟩):bQ P f args s Q:=by
 unfold bY at eW;split at eW
 ·rename_i code ae;simp only[cA,Bool.not_eq_true',fH]at eW;obtain⟨⟨⟨J,U⟩,ao⟩,a8⟩:=eW;exact bQ.of hm aN aI ae ao J U (j4 au a8) oZ he
 ·cases eW
theorem xC:iH ⟨[],[]⟩:=⟨fun _=>rfl,fun _=>rfl⟩
def bt(fe:List bs)(r:ah)(e:Exit)(st:bq):Prop:=
 (e= .ret∨e= .normal)∧match aX st fe with
  |some (c,ct)=>c∧ds (aW ct)=r
  |none=>eQ
theorem bH.mk{P:cC}(hm:P.follows .mixedOrders=true){bB:List (Nat×dB)}(aN:fN P bB=true){f:FuncId}{fn:Func}(aI:P.funcs[f]? =some fn){c:C}{fe:List bs}{n:Nat}(eW:bY bB c fe n fn=true)
  {args:List ah} (au:args.length≤n) {r:ah} (aL:aC (fun _=>eQ) r) (he:eB args→cU P [] c (bt fe r) ⟨j2 0 args,[],[],0,[]⟩):bH P f args r:=by
 refine bQ.mk hm aN aI eW au xC fun J _=>?_;have:=he J;have hT:bt fe r=cR fe ⟨[],[]⟩ (fun eF ai=>eF=r∧ai=⟨[],[]⟩):=by
  funext e st;unfold bt cR;apply propext;refine and_congr_right fun _=>?_;cases aX st fe with
  |none=>exact Iff.rfl
  |some x=>
   obtain⟨c,ct⟩:=x;refine and_congr_right fun _=>?_;constructor
   ·intro h;refine⟨⟨[],[]⟩,trivial,trivial,fun k cs ad=>by simp[look]at ad,fun k cs ad=>by simp[look]at ad,xC,?_,h,rfl⟩;rw[h];exact vr (fun k ad=>ad.elim) r aL
   ·rintro⟨ai,_,_,_,_,_,_,h,_⟩;exact h
 rw[hT]at this;exact this
theorem MC{α:Type}{β:Type}:∀l:List (aH×α),cv ([]:List (aH×β)) l=l
 |[]=>rfl
 |(k,x)::r=>by simp[cv,look,MC r]
theorem c7.val{P:cC}{n:Nat}{args:List ah}{st:bq}{d:aY Nat}{K:bq→Prop}{r:ah}(ad:aK (fun _=>eQ) args)(aI:bH P n args r)(h:K {st with t:=eK d r st.t}):c7 P n args st d K:=by
 refine .inl ⟨⟨[],[]⟩,_,fun k cs ad=>by simp[look]at ad,fun k cs ad=>by simp[look]at ad,xC,jJ (fun _ h=>h.elim) _ ad,aI,?_⟩;rintro eF ai ⟨rfl,rfl⟩;refine⟨⟨fun m h=>by simp[look]at h,fun m h=>by simp[look]at h⟩,?_⟩;have:after st ⟨[],[]⟩ ⟨[],[]⟩ d eF={st with t:=eK d eF st.t}:=by simp[after,MC,cS]
 rw[this];exact h
@[reducible,simp] def gd(n:Int):dr:= .c (.int .i64 n)
@[reducible,simp] def I(a b:Nat):c2:=⟨none,.s (.v a (.mov (.t b)))⟩
@[reducible,simp] def b5(a:Nat)(i:fO):c2:=⟨none,.s (.v a i)⟩
@[reducible,simp] def c1(i:ei):c2:=⟨none,.s i⟩
@[reducible,simp] def dp(a f:Nat)(l:List dr):c2:=⟨none,.call (some a) (.c (.func f [])) l⟩
@[reducible,simp] def b3(j:Nat)(w:Bool)(a b:Nat):c2:=⟨some (j,w),.s (.v a (.mov (.t b)))⟩
@[reducible,simp] def wc(j:Nat)(w:Bool)(a:Nat)(i:fO):c2:=⟨some (j,w),.s (.v a i)⟩
@[reducible,simp] def ys(j:Nat)(w:Bool)(i:ei):c2:=⟨some (j,w),.s i⟩
@[reducible,simp] def cu(d s a b:Nat):c2:=b5 d (.iaddr s (.t a) (.t b))
@[reducible,simp] def av(d s a:Nat):c2:=b5 d (.load false s (.t a))
@[reducible,simp] def aV(d s a:Nat):c2:=b5 d (.load true s (.t a))
@[reducible,simp] def aF(d o s a:Nat):c2:=b5 d (.faddr o false s (.t a))
@[reducible,simp] def hC(d o s a:Nat):c2:=b5 d (.faddr o true s (.t a))
@[reducible,simp] def bm(d:Nat)(o:BinOp)(a b:Nat):c2:=b5 d (.bin o false (.t a) (.t b))
@[reducible,simp] def aU(d:Nat)(o:BinOp)(a:Nat)(n:Int):c2:=b5 d (.bin o false (.t a) (gd n))
@[reducible,simp] def cl(d a:Nat):c2:=b5 d (.len (.t a))
@[reducible,simp] def cw(d a:Nat):c2:=b5 d (.notB (.t a))
@[reducible,simp] def cD(d i a:Nat):c2:=b5 d (.ext i (.t a))
@[reducible,simp] def c6(d a b:Nat):c2:=b5 d (.pick (.t a) (.c (.bool true)) (.t b))
@[reducible,simp] def dx(d a b:Nat):c2:=b5 d (.pick (.t a) (.t b) (.c (.bool false)))
@[reducible,simp] def be(d:Nat)(b:Bool):c2:=b5 d (.mov (.c (.bool b)))
@[reducible,simp] def bW(d:Nat)(n:Int):c2:=b5 d (.mov (gd n))
@[reducible,simp] def bL(s a b:Nat):c2:=c1 (.store s (.t a) (.t b))
@[reducible,simp] def aq(j:Nat)(w:Bool)(x:c2):c2:=⟨some (j,w),x.i⟩
@[reducible,simp] def aa(l:List c2)(c:C):C:= .seq (.region l) c
@[reducible,simp] def aS(n:Nat)(a b:C):C:= .cond (.t n) a b
@[reducible,simp] def gz(d a:Nat)(l:List dr):c2:=⟨none,.call (some d) (.t a) l⟩
@[reducible,simp] def cE(d f a:Nat):c2:=dp d f [.t a]
@[reducible,simp] def ca(d f a b:Nat):c2:=dp d f [.t a,.t b]
@[reducible,simp] def dP:List ah:=[.int .i64 0,.int .i64 0,.str [],.slice 4 .nil []]
@[reducible,simp] def jy:List ah:=[.int .i64 0,.int .i64 0,.int .i64 0,.str [],.slice 4 .nil []]
@[reducible,simp] def hv:List ah:=[.int .i64 0,.slice 5 .nil [],.slice 1 .nil [],.slice 2 .nil [],.slice 2 .nil []]
@[reducible,simp] def cz(a b:Nat):c2:=c1 (.box a none (.t b))
@[reducible,simp] def dj(a:Nat)(l:List ah):c2:=c1 (.alloc a none (.agg l))
@[reducible,simp] def eE(a n:Nat):c2:=b5 a (.mov (.c (.slice n .nil [])))
@[reducible,simp] def gO(a b c d e:Nat):c2:=c1 (.app a b c (.t d) (.t e))
@[reducible,simp] def ek(a b c:Nat)(l:List dr):c2:=c1 (.bsl a b c l)
@[reducible,simp] def fs(a b:Nat):c2:=b5 a (.nck (.t b))
@[reducible,simp] def jF(d s a:Nat)(n:Int):c2:=b5 d (.iaddr s (.t a) (gd n))
@[reducible,simp] def iq(d:Nat)(l:List ah)(m:List (Nat×Nat×dr)):c2:=b5 d (.build l m)
@[reducible,simp] def ft(a b c:Nat)(x:C):C:= .block 0 (.loop (aa [bm a .lss b c] (.seq (aS a .skip (.exit 0)) x)))
end Go.Pv
namespace Go.Pv
open Go Go.RowKit
theorem ed{α:Type}{l:List α}{i:Nat}(h:i<l.length):∃b,l[i]? =some b∧∀h,(l[i]'h)=b:=⟨l[i],cf h,fun _=>rfl⟩
def LL(st:bq)(i:ei):Prop:=match l0 st i with|some (c,_)=>c|none=>eQ
def LM(st:bq)(i:ei):bq:=match l0 st i with|some (_,s)=>s|none=>st
def Dr(P:cC)(r:List c2)(K:bq→Prop)(st:bq):Prop:=hR P r st K
def yi(P:cC)(ob:List aH)(c:C)(Q:Exit→bq→Prop)(st:bq):Prop:=cU P ob c Q st
def pt(P:cC)(v:ah)(s:Nat)(w:Bool)(i:eb)(r:List c2)(st:bq)(K:bq→Prop):Prop:=
 match v with
 | .bool b=>(b=w→hR P (⟨none,i⟩::r) {st with t:=put s (.bool w) st.t} K)∧(b= !w→hR P r {st with t:=eK i.dst (.tuple []) (put s (.bool !w) st.t)} K)
 | .tuple []=>hR P r {st with t:=eK i.dst (.tuple []) st.t} K
 |_=>eQ
def tk(P:cC)(ob:List aH)(v:ah)(x:dr)(t e:C)(Q:Exit→bq→Prop)(st:bq):Prop:=
 match v with
 | .bool b=>(b=true→cU P ob t Q (rE st x true))∧(b=false→cU P ob e Q (rE st x false))
 |_=>eQ
def If(P:cC)(v:ah)(d:aY Nat)(xs:List ah)(r:List c2)(st:bq)(K:bq→Prop):Prop:=
 match v with
 | .func n dm=>c7 P n (cY (xs++dm)) st d (Dr P r K)
 |_=>eQ
section
variable {P:cC} {ob:List aH} {st:bq} {K:bq→Prop} {r:List c2} {Q:Exit→bq→Prop} {a b c t e:C}
theorem ZT:hR P [] st K=K st:=rfl
theorem ZU{i:ei}:hR P (⟨none,.s i⟩::r) st K=(LL st i∧hR P r (LM st i) K):=by
 simp only[hR,tj,LL,LM];cases l0 st i with
 |none=>simp
 |some x=>rfl
theorem ZQ{d:aY Nat}{f:dr}{xs:List dr}:hR P (⟨none,.call d f xs⟩::r) st K=If P (ck st.t f) d (xs.map (ck st.t)) r st K:=by simp only[hR,tj,If];rfl
theorem ZS{d:Nat}{x:dr}:hR P (⟨none,.next d x⟩::r) st K=r5 st d (ck st.t x) (Dr P r K):=by simp only[hR,tj];rfl
def wj(P:cC)(ob:List aH)(c:C)(Q:Exit→bq→Prop):aY bq→Prop
 |some st=>cU P ob c Q st
 |none=>eQ
theorem Xr:wj P ob c Q (some st)=cU P ob c Q st:=rfl
theorem Zv{s:Nat}:cU P ob (.pub s c) Q st=wj P ob c Q (vI st s):=by simp only[cU];cases vI st s<;>rfl
theorem Zr{o1:Bool}{s:Nat}:cU P ob (.fg o1 s c) Q st=cU P ob c Q {st with t:=put s (yG o1 (get s st.t)) st.t}:=rfl
theorem Zs{o1:Bool}{s:Nat}{d:C}:cU P ob (.seq (.fg o1 s c) d) Q st=cU P ob (.seq c d) Q {st with t:=put s (yG o1 (get s st.t)) st.t}:=rfl
theorem Zt{e1:Bool}{s:Nat}:cU P ob (.fz e1 s c) Q st=wj P ob c Q (uV st e1 s):=by simp only[cU];cases uV st e1 s<;>rfl
theorem Zu{e1:Bool}{s:Nat}{d:C}:cU P ob (.seq (.fz e1 s c) d) Q st=wj P ob (.seq c d) Q (uV st e1 s):=by simp only[cU];cases uV st e1 s<;>rfl
theorem Zw{s:Nat}:cU P ob (.pubB s c) Q st=wj P ob c Q (vH st s):=by simp only[cU];cases vH st s<;>rfl
theorem ZP{n:Nat}{dm:List ah}{d:aY Nat}{xs:List ah}:If P (.func n dm) d xs r st K=c7 P n (cY (xs++dm)) st d (Dr P r K):=rfl
theorem ZR{s:Nat}{w:Bool}{i:eb}:hR P (⟨some (s,w),i⟩::r) st K=pt P (get s st.t) s w i r st K:=by simp only[hR,pt];try rfl
theorem ZZ{s:Nat}{i:eb}:pt P (.bool true) s true i r st K=hR P (⟨none,i⟩::r) {st with t:=put s (.bool true) st.t} K:=by simp[pt]
theorem ZV{s:Nat}{i:eb}:pt P (.bool false) s false i r st K=hR P (⟨none,i⟩::r) {st with t:=put s (.bool false) st.t} K:=by simp[pt]
theorem ZY{s:Nat}{i:eb}:pt P (.bool true) s false i r st K=hR P r {st with t:=eK i.dst (.tuple []) (put s (.bool true) st.t)} K:=by simp[pt]
theorem ZW{s:Nat}{i:eb}:pt P (.bool false) s true i r st K=hR P r {st with t:=eK i.dst (.tuple []) (put s (.bool false) st.t)} K:=by simp[pt]
theorem ZX{s:Nat}{w:Bool}{i:eb}:pt P (.tuple []) s w i r st K=hR P r {st with t:=eK i.dst (.tuple []) st.t} K:=by simp[pt]
theorem bS{x:Bool}{s:Nat}{w:Bool}{i:eb}(J:x=w→hR P (⟨none,i⟩::r) {st with t:=put s (.bool w) st.t} K)(U:x= !w→hR P r {st with t:=eK i.dst (.tuple []) (put s (.bool !w) st.t)} K):pt P (.bool x) s w i r st K:=⟨J,U⟩
theorem Zg:cU P ob (.seq (.seq a b) c) Q st=cU P ob (.seq a (.seq b c)) Q st:=by simp only[cU];congr 1;funext e st';cases e<;>rfl
theorem ZB:cU P ob (.seq .skip c) Q st=cU P ob c Q st:=rfl
theorem Zz:cU P ob (.seq .ret c) Q st=Q .ret st:=rfl
theorem Zp{n:Nat}:cU P ob (.seq (.exit n) c) Q st=Q (.exit n) st:=rfl
theorem ZC:cU P ob .skip Q st=Q .normal st:=rfl
theorem ZA:cU P ob .ret Q st=Q .ret st:=rfl
theorem Zq{n:Nat}:cU P ob (.exit n) Q st=Q (.exit n) st:=rfl
theorem Zx{gs:List c2}:cU P ob (.seq (.region gs) c) Q st=hR P gs st (yi P ob c Q):=rfl
theorem Zy{gs:List c2}:cU P ob (.region gs) Q st=hR P gs st (Q .normal):=rfl
theorem Zj{x:dr}:cU P ob (.seq (.cond x t e) c) Q st=tk P ob (ck st.t x) x (.seq t c) (.seq e c) Q st:=by simp only[cU,tk];try rfl
theorem Zk{x:dr}:cU P ob (.cond x t e) Q st=tk P ob (ck st.t x) x t e Q st:=by simp only[cU,tk];try rfl
theorem ZE{x:dr}:tk P ob (.bool true) x t e Q st=cU P ob t Q (rE st x true):=by simp[tk]
theorem ZD{x:dr}:tk P ob (.bool false) x t e Q st=cU P ob e Q (rE st x false):=by simp[tk]
theorem bP{v:Bool}{x:dr}(J:v=true→cU P ob t Q (rE st x true))(U:v=false→cU P ob e Q (rE st x false)):tk P ob (.bool v) x t e Q st:=⟨J,U⟩
def yd(P:cC)(ob:List aH)(id:Nat)(c:C)(Q:Exit→bq→Prop)(e:Exit)(st:bq):Prop:=
 match e with
 | .normal=>cU P ob c Q st
 | .exit j=>if j=id then cU P ob c Q st else Q (.exit j) st
 |e=>Q e st
theorem Zh{id:Nat}:cU P ob (.seq (.block id a) c) Q st=cU P ob a (yd P ob id c Q) st:=by
 simp only[cU];congr 1;funext e st';cases e with
 |exit j=>rfl
 |_=>rfl
theorem Zi{id:Nat}:cU P ob (.block id a) Q st=cU P ob a (yd P ob id .skip Q) st:=by
 simp only[cU];congr 1;funext e st';cases e with
 |exit j=>simp only[yd];by_cases af:j=id<;>simp[af,cU]
 |_=>rfl
theorem Xf{id:Nat}:yd P ob id c Q .normal st=yi P ob c Q st:=rfl
theorem Xe{id j:Nat}:yd P ob id c Q (.exit j) st=if j=id then yi P ob c Q st else Q (.exit j) st:=rfl
theorem Xg{id:Nat}:yd P ob id c Q .ret st=Q .ret st:=rfl
def bN(ob:List aH)(gR:Nat→bq→Prop)(k:Nat)(Q:Exit→bq→Prop)(e:Exit)(st:bq):Prop:=
 match e with
 | .normal=> ∃bM oj,bM<k∧iy ob st oj∧gR bM oj
 |e=>Q e st
theorem Dn{gR:Nat→bq→Prop}{k:Nat}:bN ob gR k Q .normal st= ∃bM oj,bM<k∧iy ob st oj∧gR bM oj:=rfl
theorem Xm{gR:Nat→bq→Prop}{k n:Nat}:bN ob gR k Q (.exit n) st=Q (.exit n) st:=rfl
theorem Xn{gR:Nat→bq→Prop}{k:Nat}:bN ob gR k Q .ret st=Q .ret st:=rfl
theorem oR(gR:Nat→bq→Prop)(m:Nat)(vR:bq)(hw:iy ob st vR)(bA:gR m vR)(h:∀k s,gR k s→(∀i,ec (get i s.t))→(∀j cs,look j s.b=some cs→hM cs=true→et cs)→cU P ob a (bN ob gR k Q) s):cU P ob (.loop a) Q st:=by
 simp only[cU];refine⟨gR,m,vR,hw,bA,fun k s J U ao=>?_⟩;have:=h k s J U ao;have bo:(bN ob gR k Q)=(fun e ai=>match e with| .normal=> ∃bM oj,bM<k∧iy ob ai oj∧gR bM oj|e=>Q e ai):=by funext e ai;cases e<;>rfl
 rw[bo]at this;exact this
end
/-Regions cL draw lD order. -/
def LJ(n0:Nat)(st:bq)(i:ei):Prop:=match eA (oN n0 i) st.n (oN n0 i::st.o) st i with|some (c,_)=>c|none=>eQ
def LK(n0:Nat)(st:bq)(i:ei):bq:=match eA (oN n0 i) st.n (oN n0 i::st.o) st i with|some (_,s)=>s|none=>st
def G4(P:cC)(q:Bool)(nw:List Nat)(n0:Nat)(r:List c2)(K:bq→Prop)(st:bq):Prop:=hH P q nw n0 r st K
def ps(P:cC)(q:Bool)(nw:List Nat)(n0:Nat)(v:ah)(s:Nat)(w:Bool)(i:eb)(r:List c2)(st:bq)(K:bq→Prop):Prop:=
 match v with
 | .bool b=>(b=w→hH P q nw n0 (⟨none,i⟩::r) {st with t:=put s (.bool w) st.t} K)∧(b= !w→hH P q nw n0 r {st with t:=eK i.dst (.tuple []) (put s (.bool !w) st.t)} K)
 | .tuple []=>hH P q nw n0 r {st with t:=eK i.dst (.tuple []) st.t} K
 |_=>eQ
def Ie(P:cC)(q:Bool)(nw:List Nat)(n0:Nat)(v:ah)(d:aY Nat)(xs:List ah)(r:List c2)(st:bq)(K:bq→Prop):Prop:=
 match v with
 | .func n dm=>hX P q nw n (cY (xs++dm)) st d (G4 P q nw n0 r K)
 |_=>eQ
section
variable {P:cC} {ob:List aH} {st:bq} {K:bq→Prop} {r:List c2} {Q:Exit→bq→Prop} {c:C} {q:Bool} {nw:List Nat} {n0 N:Nat}
theorem ZI:hH P q nw n0 [] st K=K st:=rfl
theorem ZJ{i:ei}:hH P q nw n0 (⟨none,.s i⟩::r) st K=(lN q nw n0 st i∧LJ n0 st i∧hH P q nw n0 r (LK n0 st i) K):=by
 simp only[hH,ka,LJ,LK];cases eA (oN n0 i) st.n (oN n0 i::st.o) st i with
 |none=>simp
 |some x=>rfl
theorem ZG{d:aY Nat}{f:dr}{xs:List dr}:hH P q nw n0 (⟨none,.call d f xs⟩::r) st K=Ie P q nw n0 (ck st.t f) d (xs.map (ck st.t)) r st K:=by simp only[hH,ka,Ie];rfl
theorem ZF{n:Nat}{dm:List ah}{d:aY Nat}{xs:List ah}:Ie P q nw n0 (.func n dm) d xs r st K=hX P q nw n (cY (xs++dm)) st d (G4 P q nw n0 r K):=rfl
theorem ZH{s:Nat}{w:Bool}{i:eb}:hH P q nw n0 (⟨some (s,w),i⟩::r) st K=ps P q nw n0 (get s st.t) s w i r st K:=by simp only[hH,ps];try rfl
theorem ZO{s:Nat}{i:eb}:ps P q nw n0 (.bool true) s true i r st K=hH P q nw n0 (⟨none,i⟩::r) {st with t:=put s (.bool true) st.t} K:=by simp[ps]
theorem ZK{s:Nat}{i:eb}:ps P q nw n0 (.bool false) s false i r st K=hH P q nw n0 (⟨none,i⟩::r) {st with t:=put s (.bool false) st.t} K:=by simp[ps]
theorem ZN{s:Nat}{i:eb}:ps P q nw n0 (.bool true) s false i r st K=hH P q nw n0 r {st with t:=eK i.dst (.tuple []) (put s (.bool true) st.t)} K:=by simp[ps]
theorem ZL{s:Nat}{i:eb}:ps P q nw n0 (.bool false) s true i r st K=hH P q nw n0 r {st with t:=eK i.dst (.tuple []) (put s (.bool false) st.t)} K:=by simp[ps]
theorem ZM{s:Nat}{w:Bool}{i:eb}:ps P q nw n0 (.tuple []) s w i r st K=hH P q nw n0 r {st with t:=eK i.dst (.tuple []) st.t} K:=by simp[ps]
theorem bR{x:Bool}{s:Nat}{w:Bool}{i:eb}(J:x=w→hH P q nw n0 (⟨none,i⟩::r) {st with t:=put s (.bool w) st.t} K)(U:x= !w→hH P q nw n0 r {st with t:=eK i.dst (.tuple []) (put s (.bool !w) st.t)} K):ps P q nw n0 (.bool x) s w i r st K:=⟨J,U⟩
theorem Zl{gs:List c2}:cU P ob (.seq (.drawn q N gs) c) Q st=hH P q [] st.n gs st (sY (st.n+N) st.o (yi P ob c Q)):=rfl
theorem Zm{gs:List c2}:cU P ob (.drawn q N gs) Q st=hH P q [] st.n gs st (sY (st.n+N) st.o (Q .normal)):=rfl
theorem Zn{gs:List c2}:cU P ob (.seq (.drawnW nw N gs) c) Q st=((∀j∈nw,.obj j∉st.o)∧hH P false nw st.n gs st (sY (st.n+N) (nw.map aH.obj++st.o) (yi P ob c Q))):=rfl
theorem Zo{gs:List c2}:cU P ob (.drawnW nw N gs) Q st=((∀j∈nw,.obj j∉st.o)∧hH P false nw st.n gs st (sY (st.n+N) (nw.map aH.obj++st.o) (Q .normal))):=rfl
theorem hX.val{n:Nat}{args:List ah}{d:aY Nat}{r:ah}(ad:aK (fun _=>eQ) args)(aI:bH P n args r)(h:K {st with t:=eK d r st.t}):hX P q nw n args st d K:=by
 refine .inr ⟨⟨[],[]⟩,⟨[],[]⟩,r,none,fun k cs ad=>by simp[look]at ad,fun k cs ad=>by simp[look]at ad,xC,xC,⟨fun k h=>.inl h,fun k h=>.inl h,fun k h=>h,fun k h=>h,fun k h=>by cases h⟩,jJ (fun _ h=>h.elim) _ ad,aI,fun _=>⟨rfl,rfl⟩,?_⟩;have:({after st ⟨[],[]⟩ ⟨[],[]⟩ d r with o:=st.o}:bq)={st with t:=eK d r st.t}:=by simp[after,MC]
 rw[this];exact h
theorem aE{n:Nat}{args:List ah}{d:aY Nat}{r:ah}(aI:bH P n args r)(h:K {st with t:=eK d r st.t})(ad:aK (fun _=>eQ) args:=by simp):hX P q nw n args st d K:=hX.val ad aI h
end
section
variable {k:IntKind} {n:Int} {b:Bool} {s:List dz} {sz:Nat} {tag:AI} {xs:List ah} {key:aH} {off f:Nat} {x:ah}
@[simp] theorem aq9:dY (.int k n)=true:=rfl
@[simp] theorem aqV:dY (.bool b)=true:=rfl
@[simp] theorem arl:dY (.str s)=true:=rfl
@[simp] theorem ark:dY (.slice sz tag xs)=true:=rfl
@[simp] theorem aqR:dY (.agg xs)=true:=rfl
@[simp] theorem ari:dY (.ptr key off)=true:=rfl
@[simp] theorem aq5:dY (.eptr x)=true:=rfl
@[simp] theorem aq8{t:Nat}:dY (.iface t x)=true:=rfl
@[simp] theorem ana{t:Nat}:cells (.iface t x)=[.iface t x]:=rfl
@[simp] theorem aqX{a:aY Addr}{n c:Nat}:dY (.cst (.slice a n c))=true:=rfl
@[simp] theorem aqY{s}:dY (.cst (.string s))=true:=rfl
@[simp] theorem arh:dY .nilp=true:=rfl
@[simp] theorem aq6:dY (.func f xs)=true:=rfl
@[simp] theorem aq7:dY (.gmap key)=true:=rfl
@[simp] theorem arj{n:Nat}:dY (.row sz key n)=true:=rfl
@[simp] theorem anl{n:Nat}:cells (.row sz key n)=[.row sz key n]:=rfl
@[simp] theorem anb:cells (.int k n)=[.int k n]:=rfl
@[simp] theorem amZ:cells (.bool b)=[.bool b]:=rfl
@[simp] theorem ann:cells (.str s)=[.str s]:=rfl
@[simp] theorem anm:cells (.slice sz tag xs)=[.slice sz tag xs]:=rfl
@[simp] theorem amV:cells (.agg xs)=xs:=rfl
@[simp] theorem ank:cells (.ptr key off)=[.ptr key off]:=rfl
@[simp] theorem am7:cells (.eptr x)=[.eptr x]:=rfl
@[simp] theorem anj:cells .nilp=[.nilp]:=rfl
@[simp] theorem am8:cells (.func f xs)=[.func f xs]:=rfl
@[simp] theorem am9:cells (.gmap key)=[.gmap key]:=rfl
end
section
variable {b:List (aH×List ah)} {e:List (aH×fM)} {agg:Bool} {sz off:Nat} {k:aH} {p:ah} {cs xs bc:List ah} {fh:IntKind} {n i:Int} {m j:Nat} {tag:AI} {s:List dz} {Nn:Bool} {lo hi:aY ah}
@[simp] theorem apl{dF:Nat}{f:Nat}:mu b e agg sz (.rptr dF k m j f)=xW agg sz dF m j f (look k e):=rfl
@[simp] theorem apk:mu b e agg sz (.ptr k off)=(match look k b with
  |some cs=>if agg then some (hM cs=true∧off+sz≤cs.length,.agg ((cs.drop off).take sz))else(cs[off]?).map fun p=>(hM cs=true,p)
  |none=>none):=rfl
@[simp] theorem apj:mu b e agg sz (.eptr p)=if agg then some (isAgg sz p,p)else some (dY p=true∧cells p=[p],p):=rfl
@[simp] theorem anQ:Bd agg sz (.eptr p)=if agg then some (isAgg sz p,p)else some (dY p=true∧cells p=[p],p):=rfl
@[simp] theorem anG{o:Nat}:pw off agg sz (.ptr k o)=some (True,.ptr k (o+off)):=rfl
@[simp] theorem anH{dF f:Nat}:pw off agg sz (.rptr dF k m j f)=some (True,.rptr dF k m j (f+off)):=rfl
@[simp] theorem anz:pw off agg sz (.eptr (.agg cs))=if agg then some (off+sz≤cs.length,.eptr (.agg ((cs.drop off).take sz)))else(cs[off]?).map fun p=>(dY p=true∧cells p=[p],.eptr p):=rfl
@[simp] theorem anJ:qV off agg sz (.agg cs)=if agg then some (off+sz≤cs.length,.agg ((cs.drop off).take sz))else(cs[off]?).map fun p=>(True,p):=rfl
@[simp] theorem aok{dF:Nat}:zk sz (.slice dF tag xs) (.int fh i)=if dF=sz then some (0≤i∧i<xs.length,.eptr (xs.getD i.toNat .junk))else none:=rfl
@[simp] theorem aoj{dF:Nat}:zk sz (.row dF k m) (.int fh i)=if dF=sz then some (0≤i∧i<m,.rptr dF k m i.toNat 0)else none:=rfl
@[simp] theorem api{dF:Nat}:zu (.slice dF tag xs)=some (True,.int .i64 xs.length):=rfl
@[simp] theorem aph{dF:Nat}:zu (.row dF k m)=some (True,.int .i64 m):=rfl
@[simp] theorem apg{a:aY Addr}{n c:Nat}:zu (.cst (.slice a n c))=some (True,.int .i64 n):=rfl
@[simp] theorem aqP{s}:CY (.cst (.string s))=some (True,.int .i64 s.size):=rfl
@[simp] theorem aqQ:CY (.str s)=some (True,.int .i64 s.length):=rfl
@[simp] theorem anx:yB j (.tuple bc)=(bc[j]?).map fun p=>(True,p):=rfl
@[simp] theorem apM:zE (.ptr k off)=some (True,.ptr k off):=rfl
@[simp] theorem apK:zE (.eptr p)=some (True,.eptr p):=rfl
@[simp] theorem apL:zE (.func j cs)=some (True,.func j cs):=rfl
@[simp] theorem apN:FD (.bool Nn)=some (True,.bool (!Nn)):=rfl
@[simp] theorem aqO:Gv (.str s) (.int fh i)=some (0≤i∧i<s.length,.int .u8 (s.getD i.toNat 0).toNat):=rfl
@[simp] theorem aro:GA (.str s) lo hi=(match qy 0 lo,qy s.length hi with
  |some l,some h=>some (0≤l∧l≤h∧h≤s.length,.str ((s.take h.toNat).drop l.toNat))
  |_,_=>none):=rfl
@[simp] theorem apm{dF:Nat}:Fo sz (.slice dF tag xs) lo hi=(if dF=sz then match qy 0 lo,qy xs.length hi with
  |some l,some h=>some (0≤l∧l≤h∧h≤xs.length,.slice sz .no ((xs.take h.toNat).drop l.toNat))
  |_,_=>none else none):=rfl
theorem TK{f:aH→aY (List ah)}{b9:jm}{z q:ah}{ok:Bool}:nA f b9 z ok (.gmap k) q=(match f k with
  |some (.hdm _ _::kvs)=>if tM b9 q=false then none else match vx b9 q kvs with
   |some (some v)=>some (True,if ok then .tuple [v,.bool true]else v)
   |some none=>some (True,if ok then .tuple [z,.bool false]else z)
   |none=>none
  |_=>none):=rfl
theorem agf{f:aH→aY (List ah)}:tW f (.gmap k)=(match f k with
  |some (.hdm _ borns::_)=>some (True,.int .i64 borns.length)
  |_=>none):=rfl
theorem TH{f:aH→aY (List ah)}:o3 f (.ptr k 0)=(match f k with
  |some [.hdi _ seen last,.gmap mk]=>match f mk with
   |some (.hdm clock borns::kvs)=>match seen.getLast? with
    |some n=>(mv n borns kvs).map fun p=>(clock=last,p)
    |none=>none
   |_=>none
  |_=>none):=rfl
@[simp] theorem aqL{dF f n' el ja:Nat}:xW agg sz dF m j f (some ⟨n',el,ja,some xs⟩)=(if n'=m∧ja=dF then
   (match xs[j]? with
    |some p=>if agg then some (dY p=true∧f+sz≤(cells p).length,.agg (((cells p).drop f).take sz))else((cells p)[f]?).map fun q=>(dY p=true,q)
    |none=>none)else none):=rfl
end
attribute [simp] Zg Zx Zh Zj ZB Zz Zp ZC ZA Zq Zy Zi Zk yi Xf Xe Xg Xm Xn ZT ZU ZQ ZP ZR
 ZZ ZV ZY ZW ZX ZE ZD LL LM l0 gZ j2 ck get put jA pK mY mZ cx qy AO EZ GB nD tf FP Fz DZ Fy
 look eK ei.dst eb.dst rE Dr rX cY ds aC aK
 Zl Zm Zn Zo ZI ZJ ZG ZF ZH ZO ZK ZN ZL ZM LJ LK eA oN lN wL fO.loadO sY G4 xl hM rY ZS Zv Zw Zr Zs Zt Zu uV IE r2 yG Xr vI CG vH qF mx ib Ft
theorem aD{P:cC}{n:Nat}{args:List ah}{st:bq}{d:aY Nat}{K:bq→Prop}{r:ah}(aI:bH P n args r)(h:K {st with t:=eK d r st.t})(ad:aK (fun _=>eQ) args:=by simp):c7 P n args st d K:=c7.val ad aI h
theorem aj{a b:Prop}(ae:b)(bF:a:=by first|omega|(unfold sq;omega)|(unfold lim;omega)):a∧b:=⟨bF,ae⟩
theorem cp{p:Prop}(h:eQ:=by first|contradiction|omega):p:=h.elim
theorem b2{p:Prop}(h:p:=by(try simp[*]);(repeat' first|with_reducible refine aj ?_|with_reducible refine aD (by assumption) ?_|with_reducible refine aE (by assumption) ?_|simp[*]);(all_goals first|done|(simp[bt,aX,aZ,aW, *];done))):p:=h
end Go.Pv
namespace Go.Pv
open Go Go.RowKit
structure eo (s:cJ):Prop where
 obj:iH s
 kb:∀k cs,look k s.b=some cs→aK (inObs s) cs
 ke:∀k o,look k s.e=some o→dQ (inObs s) o
structure Same (s ai:cJ):Prop where
 b:∀k,(look k s.b).isSome=(look k ai.b).isSome
 e:∀k,(look k s.e).isSome=(look k ai.e).isSome
theorem Same.refl(s:cJ):Same s s:=⟨fun _=>rfl,fun _=>rfl⟩
theorem Same.inObs{s ai:cJ}(h:Same s ai)(k:aH):inObs s k↔inObs ai k:=by unfold Pv.inObs;rw[h.b,h.e]
theorem tT{α:Type}{k:aH}{x:α}:∀{l:List (aH×α)},(k,x)∈l→(look k l).isSome
 |(i,y)::r,h=>by
  simp only[look];split
  ·rfl
  ·rename_i cF;rcases fU.1 h with h|h
   ·cases h;exact absurd rfl cF
   ·exact tT h
theorem Sp{s:cJ}{k:aH}(h:k∈cS s):inObs s k:=by
 unfold cS at h;rcases kx.1 h with h|h
 ·obtain⟨⟨bM,x⟩,J,rfl⟩:=h8.1 h;exact .inl (tT J)
 ·obtain⟨⟨bM,x⟩,J,rfl⟩:=h8.1 h;exact .inr (tT J)
theorem jM{s:cJ}(h:iH s)(m:Nat):aH.loc m∉cS s:=fun hm=>by
 rcases Sp hm with J|J
 ·rw[h.1 m]at J;cases J
 ·rw[h.2 m]at J;cases J
theorem im{α β:Type}(s:List (aH×β)):∀(a b:List (aH×α)),cv s (a++b)=cv s a++cv s b
 |[],b=>rfl
 |(k,x)::r,b=>by
  simp only[bU,cv];cases look k s with
  |none=>simp[im s r b]
  |some _=>exact im s r b
theorem MD{α β:Type}(s:List (aH×β)):∀(l:List (aH×α)),(∀k x,(k,x)∈l→(look k s).isSome)→cv s l=[]
 |[],_=>rfl
 |(k,x)::r,h=>by
  have J:=h k x (by simp);simp only[cv];cases au:look k s with
  |none=>rw[au]at J;cases J
  |some _=>exact MD s r fun k x ab=>h k x (by simp[ab])
theorem gN{α:Type}(s:List (aH×α)):cv s s=[]:=MD s s fun k x h=>tT h
theorem jR{α:Type}{k:aH}{x:α}:∀{l:List (aH×α)},look k l=none→cx k x l=l++[(k,x)]
 |[],_=>rfl
 |(i,y)::r,h=>by
  simp only[look]at h;split at h
  ·cases h
  ·rename_i cF;simp[cx,cF,jR h]
theorem cI{α:Type}(k:aH):∀(a b:List (aH×α)),look k (a++b)=match look k a with|some x=>some x|none=>look k b
 |[],b=>rfl
 |(i,y)::r,b=>by
  simp only[bU,look];split
  ·rfl
  ·exact cI k r b
theorem c7.ob{P:cC}{n:Nat}{args:List ah}{st:bq}{d:aY Nat}{K:bq→Prop}{s:cJ}{Q:ah→cJ→Prop}(aI:bQ P n args s Q)(ag:eo s)(ae:∀k cs,look k s.b=some cs→look k st.b=some cs)(he:∀k o,look k s.e=some o→look k st.e=some o)
  (ad:aK (inObs s) args) (h:∀r ai,Q r ai→Same s ai∧K ⟨eK d r st.t,cv s.b st.b++ai.b,cv s.e st.e++ai.e,st.n,st.o++cS ai⟩):c7 P n args st d K:=by
 refine .inl ⟨s,Q,fun k cs ax=>⟨ae k cs ax,.inl (by simp[ax]),ag.kb k cs ax⟩,fun k o aw=>⟨he k o aw,.inr (by simp[aw]),ag.ke k o aw⟩,ag.obj,ad,aI,fun r ai bo=>?_⟩;obtain⟨J,U⟩:=h r ai bo;exact⟨⟨fun m hm=>.inl (by rw[J.b];exact hm),fun m hm=>.inl (by rw[J.e];exact hm)⟩,U⟩
theorem cR.ob{fe:List bs}{s ai:cJ}{Q:ah→cJ→Prop}{e:Exit}{st:bq}{c:Prop}{ct:List ah}(tv:e= .ret∨e= .normal)(xd:aX st fe=some (c,ct))(ax:c)(ag:eo ai)(e8:Same s ai)(ae:∀k cs,look k ai.b=some cs→look k st.b=some cs)(dw:∀k o,look k ai.e=some o→look k st.e=some o)
  (ad:aC (inObs ai) (ds (aW ct))) (bo:Q (ds (aW ct)) ai):cR fe s Q e st:=by
 refine⟨tv,?_⟩;rw[xd];have RE:∀{α:Type} (l:List (aH×α)),(∀k x,(k,x)∈l→inObs ai k)→lY ai l:=by
  intro α l;induction l with
  |nil=>intro _;trivial
  |cons x r bT=>obtain⟨k,x⟩:=x;intro h;exact⟨h k x (by simp),bT fun k x ab=>h k x (by simp[ab])⟩
 exact⟨ax,ai,RE _ fun k x ab=>.inl (by rw[←e8.b];exact tT ab),RE _ fun k x ab=>.inr (by rw[←e8.e];exact tT ab),fun k cs dq=>⟨ae k cs dq,.inl (by simp[dq]),ag.kb k cs dq⟩,fun k o aw=>⟨dw k o aw,.inr (by simp[aw]),ag.ke k o aw⟩,ag.obj,ad,bo⟩
theorem bQ.mono{P:cC}{f:FuncId}{args:List ah}{s:cJ}{Q p7:ah→cJ→Prop}(h:bQ P f args s Q)(bo:∀r ai,Q r ai→p7 r ai):bQ P f args s p7:=by
 intro w ν bc J U ao;have hm:∀(e:Ending) (w':World),(∃v r ai bp,e= .returned v∧Q r ai∧ba w' bp r v∧Good (fun bl=>fu ν s bl∨w.heap.size≤bl) w' bp ai.b ai.e∧oS bp ai∧iH ai∧p5 ⟨w,ν,fu ν s,0,cS s⟩ w' bp)→(∃v r ai bp,e= .returned v∧p7 r ai∧ba w' bp r v∧Good (fun bl=>fu ν s bl∨w.heap.size≤bl) w' bp ai.b ai.e∧oS bp ai∧iH ai∧p5 ⟨w,ν,fu ν s,0,cS s⟩ w' bp):=by rintro e w' ⟨v,r,ai,bp,bE,a2,a3⟩;exact⟨v,r,ai,bp,bE,bo _ _ a2,a3⟩
 rcases h w ν bc J U ao with⟨qm,ax⟩|⟨v,w',ax,aL⟩
 ·exact .inl ⟨qm,ax.mono hm⟩
 ·exact .inr ⟨v,w',ax,hm _ _ aL⟩
theorem Cq{s:cJ}{k:aH}(h:inObs s k):¬fresh 0 (cS s) k:=fun aI=>aI.2 (sF h)
theorem iy.ob{s:cJ}(ag:eo s){st:bq}{dJ:List (Nat×ah)}(aN:∀x∈dJ,get x.1 st.t=x.2∧aC (inObs s) x.2)(ae:∀k cs,look k s.b=some cs→look k st.b=some cs)(he:∀k o,look k s.e=some o→look k st.e=some o):
  iy (cS s) st ⟨dJ,s.b,s.e,0,cS s⟩:=
 ⟨fun x ab=>⟨(aN x ab).1,vr (fun k ad=>Cq ad) _ (aN x ab).2⟩,fun k cs ax=>⟨ae k cs ax,Cq (.inl (by simp[ax])),jJ (fun k ad=>Cq ad) _ (ag.kb k cs ax)⟩,
  fun k o aw=>⟨he k o aw,Cq (.inr (by simp[aw])),fun xs ab=>jJ (fun k ad=>Cq ad) _ (ag.ke k o aw xs ab)⟩,fun m hm=>hm⟩
def cX(st:bq)(fe:List bs)(R:ah→Prop):Prop:=match aX st fe with
 |some (c,ct)=>c∧R (ds (aW ct))
 |none=>eQ
theorem cR.at{fe:List bs}{s:cJ}{Q:ah→cJ→Prop}{e:Exit}{st:bq}(ai:cJ)(tv:e= .ret∨e= .normal)(ag:eo ai)(e8:Same s ai)(ae:∀k cs,look k ai.b=some cs→look k st.b=some cs)(dw:∀k o,look k ai.e=some o→look k st.e=some o)
  (h:cX st fe fun r=>aC (inObs ai) r∧Q r ai):cR fe s Q e st:=by
 unfold cX at h;split at h
 ·rename_i c ct aL;exact cR.ob tv aL h.1 ag e8 ae dw h.2.1 h.2.2
 ·exact h.elim
theorem hX.ob{P:cC}{nw:List Nat}{n:Nat}{args:List ah}{st:bq}{d:aY Nat}{K:bq→Prop}{s ai:cJ}{r:ah}(aI:bQ P n args s fun eF dJ=>eF=r∧dJ=ai)(ag:eo s)(gi:eo ai)(e8:Same s ai)(ae:∀k cs,look k s.b=some cs→look k st.b=some cs)(he:∀k o,look k s.e=some o→look k st.e=some o)
  (ad:aK (inObs s) args) (h:K ⟨eK d r st.t,cv s.b st.b++ai.b,cv s.e st.e++ai.e,st.n,st.o⟩):hX P false nw n args st d K:=
 .inr ⟨s,ai,r,none,fun k cs ax=>⟨ae k cs ax,.inl (by simp[ax]),ag.kb k cs ax⟩,fun k o aw=>⟨he k o aw,.inr (by simp[aw]),ag.ke k o aw⟩,ag.obj,gi.obj,⟨fun k ad=>.inl (by rw[e8.b];exact ad),fun k ad=>.inl (by rw[e8.e];exact ad),fun k ad=>by rw[←e8.b];exact ad,fun k ad=>by rw[←e8.e];exact ad,fun k ad=>by cases ad⟩,ad,aI,(fun e=>by cases e),h⟩
theorem eo.of{s:cJ}(aw:iH s)(ae:∀x∈s.b,aK (inObs s) x.2)(he:∀x∈s.e,∀xs,x.2.xs=some xs→aK (inObs s) xs):eo s:=⟨aw,fun k cs ad=>ae (k,cs) (sA ad),fun k o ad xs ab=>he (k,o) (sA ad) xs ab⟩
@[simp] theorem apO(b:List (aH×List ah))(e:List (aH×fM)):cS ⟨b,e⟩=b.map (·.1)++e.map (·.1):=rfl
theorem Au{α:Type}{k:aH}{p:α}:∀{a r:List (aH×α)},look k a=none→cx k p (a++r)=a++cx k p r
 |[],_,_=>rfl
 |(i,y)::a,r,h=>by
  simp only[look]at h;split at h
  ·cases h
  ·rename_i cF;simp[cx,cF,Au h]
theorem afz{α:Type}{s b:List (aH×α)}(h:∀p∈s,look p.1 b=some p.2):∀k x,look k s=some x→look k b=some x:=fun k x ab=>h (k,x) (sA ab)
theorem dZ{S:aH→Prop}{bO b:List (aH×List ah)}(h:∀p∈bO,look p.1 b=some p.2∧S p.1∧aK S p.2):gy S bO b:=fun k x ab=>h (k,x) (sA ab)
theorem ea{S:aH→Prop}{bO b:List (aH×fM)}(h:∀p∈bO,look p.1 b=some p.2∧S p.1∧dQ S p.2):ot S bO b:=fun k x ab=>h (k,x) (sA ab)
theorem aR{α:Type}{s b:List (aH×α)}(h:∀k x,look k s=some x→look k b=some x:=by first|(refine afz ?_;simp;done)|(intro k x ab;first|exact ab|(simp[ab,gN];done)|(simp[cI,gN,ab];done)|(cases k<;>simp_all[cI];done))):∀k x,look k s=some x→look k b=some x:=h
theorem b0{ob:List aH}{st st':bq}(J:∀x∈st'.t,get x.1 st.t=x.2∧aC (fun k=> ¬fresh st'.n st'.o k) x.2:=by simp[fresh,aK,aC,cd,inObs,Pv.look])(U:∀p∈st'.b,look p.1 st.b=some p.2∧(¬fresh st'.n st'.o p.1)∧aK (fun k=> ¬fresh st'.n st'.o k) p.2:=by simp[fresh,aK,aC,cd,inObs,Pv.look])(ao:∀p∈st'.e,look p.1 st.e=some p.2∧(¬fresh st'.n st'.o p.1)∧dQ (fun k=> ¬fresh st'.n st'.o k) p.2:=by simp[fresh,aK,aC,dQ,inObs,Pv.look])(a8:∀m∈ob,m∈st'.o:=by simp):iy ob st st':=⟨J,dZ U,ea ao,a8⟩
theorem bN.next{ob:List aH}{gR:Nat→bq→Prop}{k:Nat}{Q:Exit→bq→Prop}{st:bq}(bM:Nat){ai:bq}(ad:bM<k)(hi:gR bM ai)(hw:iy ob st ai):bN ob gR k Q .normal st:=⟨bM,ai,ad,hw,hi⟩
def kc:List (Int×ah)→List ah
 |[]=>[]
 |(k,v)::r=>.int .i64 k::v::kc r
def jz(l:List (Int×ah)):List ah:= .hdm l.length (List.range l.length)::kc l
def wv(k:Int):List (Int×ah)→aY ah
 |[]=>none
 |(i,v)::r=>if k=i then some v else wv k r
def oJ(k:Int)(v:ah):List (Int×ah)→aY (List (Int×ah))
 |[]=>none
 |(i,w)::r=>if k=i then some ((k,v)::r)else match oJ k v r with|some eF=>some ((i,w)::eF)|none=>none
def DA(k:Int)(v:ah)(l:List (Int×ah)):List (Int×ah):=match oJ k v l with|some a1=>a1|none=>l++[(k,v)]
@[simp] theorem apx:[ah.hdm 0 []]=jz []:=rfl
theorem QE:∀a b,kc (a++b)=kc a++kc b
 |[],_=>rfl
 |(k,v)::r,b=>by simp[kc,QE r b]
theorem TI(k:Int):∀l,vx .i (.int .i64 k) (kc l)=some (wv k l)
 |[]=>rfl
 |(i,v)::r=>by
  simp only[kc,vx,sv,wv];by_cases h:k=i
  ·simp[h]
  ·have:(k==i)=false:=by simp[h]
   simp[h,TI k r,this]
theorem Nd{k:Int}{v:ah}:∀{l a1},oJ k v l=some a1→a1.length=l.length
 |[],_,h=>by simp[oJ]at h
 |(i,w)::r,a1,h=>by
  simp only[oJ]at h;split at h
  ·cases h;rfl
  ·split at h
   ·rename_i eF aL;cases h;simp[Nd aL]
   ·cases h
theorem TV(k:Int)(v:ah):∀l,tX .i (.int .i64 k) v (kc l)=some ((oJ k v l).map kc)
 |[]=>rfl
 |(i,w)::r=>by
  simp only[kc,tX,sv,oJ];by_cases h:k=i
  ·subst h;simp[kc]
  ·simp only[and_self,if_true,h,if_false,dL,TV k v r];have:(k==i)=false:=by simp[h]
   rw[this];cases oJ k v r<;>simp[kc]
@[simp] theorem TU(k:Int)(v:ah)(l:List (Int×ah)):og .i (.int .i64 k) v (jz l)=some (jz (DA k v l)):=by
 simp only[jz,og,SU,Bool.true_eq_false,reduceCtorEq,if_false,TV,DA];cases h:oJ k v l with
 |some a1=>simp[Nd h]
 |none=>simp[QE,kc,List.range_succ]
@[simp] theorem afZ(f:aH→aY (List ah))(m:aH)(l:List (Int×ah))(z:ah)(ok:Bool)(k:Int)(hm:f m=some (jz l)):nA f .i z ok (.gmap m) (.int .i64 k)=(match wv k l with
  |some v=>some (True,if ok then .tuple [v,.bool true]else v)
  |none=>some (True,if ok then .tuple [z,.bool false]else z)):=by
 simp only[TK,hm,jz,SU,Bool.true_eq_false,reduceCtorEq,if_false,TI];cases wv k l<;>rfl
@[simp] theorem agh(f:aH→aY (List ah))(m:aH)(l:List (Int×ah))(hm:f m=some (jz l)):tW f (.gmap m)=some (True,.int .i64 l.length):=by simp[agf,hm,jz]
def cd(n:Nat)(seen:List Nat)(m:aH):List ah:=[.hdi n seen n,.gmap m]
@[simp] theorem aqK(m:aH)(l:List (Int×ah)):vM m (jz l)=some (cd l.length [] m):=rfl
@[simp] theorem apX(l:List (Int×ah)):hM (jz l)=false:=rfl
theorem Kl(b:Nat):∀(n:Nat) (l:List (Int×ah)),mv b (List.range' n l.length) (kc l)=(if n≤b then(l[b-n]?).map fun x=>.tuple [.int .i64 x.1,x.2]else none)
 |n,[]=>by simp[mv,kc]
 |n,(k,v)::r=>by
  simp only[p2,List.range'_succ,kc,mv];by_cases h:n=b
  ·subst h;simp
  ·rw[if_neg h,Kl b (n+1) r];by_cases U:n≤b
   ·rw[if_pos U,if_pos (by omega)];have:b-n=(b-(n+1))+1:=by omega
    rw[this];simp
   ·rw[if_neg U,if_neg (by omega)]
@[simp] theorem TG(f:aH→aY (List ah))(fh mk:aH)(n:Nat)(seen:List Nat)(b:Nat)(l:List (Int×ah))(hi:f fh=some (cd n (seen++[b]) mk))(hm:f mk=some (jz l))(aA:n=l.length):o3 f (.ptr fh 0)=(l[b]?).map fun x=>(True,.tuple [.int .i64 x.1,x.2]):=by subst aA;simp only[TH,hi,hm,cd,jz,List.getLast?_append,List.getLast?_singleton,Option.some_or,List.range_eq_range',Kl,Nat.zero_le,if_true,Nat.sub_zero,Option.map_map];cases l[b]?<;>simp
theorem P9{st:bq}{d:Nat}{K:bq→Prop}{fh mk:aH}{n:Nat}{seen:List Nat}{l:List (Int×ah)}(hi:look fh st.b=some (cd n seen mk))(hm:look mk st.b=some (jz l))(aA:n=l.length)
  (J:(∀b,b<n→b∈seen)→K {st with t:=put d (.tuple [.bool false]) st.t}) (U:∀b k v,l[b]? =some (k,v)→b∉seen→K {st with t:=put d (.tuple [.bool true,.int .i64 k,v]) st.t,b:=cx fh (cd n (seen++[b]) mk) st.b}):
  r5 st d (.ptr fh 0) K:=by
 subst aA;simp only[r5,hi,cd,hm,jz,Kz,and_self,true_and];refine⟨fun h=>J fun b ae=>h b (by simpa using ae),fun b k v w9 ae=>?_⟩;rw[List.range_eq_range',Kl]at w9;simp only[Nat.zero_le,if_true,Nat.sub_zero,gF,ah.tuple.injEq,p0,and_true]at w9;obtain⟨⟨bM,v'⟩,ak,aB,bj⟩:=w9;simp only at aB bj;subst aB bj;exact U b bM v' ak ae
theorem aix{n:Nat}{seen:List Nat}(aQ:seen.Nodup)(bC:∀b∈seen,b<n)(lf:∀b,b<n→b∈seen):seen.Perm (List.range n):=(List.perm_ext_iff_of_nodup aQ List.nodup_range).2 fun b=>⟨fun h=>by simpa using bC b h,fun h=>lf b (by simpa using h)⟩
theorem Gs{n:Nat}{seen:List Nat}(aQ:seen.Nodup)(bC:∀b∈seen,b<n):seen.length≤n:=by have:=MK aQ (l₂:=List.range n) (fun b ae=>by simpa using bC b ae);simpa using this
theorem LQ{n b:Nat}{seen:List Nat}(aQ:seen.Nodup)(bC:∀b∈seen,b<n)(ae:b<n)(aA:b∉seen):seen.length<n:=by have J:(b::seen).Nodup:=List.nodup_cons.2 ⟨aA,aQ⟩;have:=Gs J (n:=n) (by simp;exact⟨ae,bC⟩);simp at this;omega
theorem Vi{α:Type}:∀(l pre:List α),(List.range' pre.length l.length).filterMap (fun b=>(pre++l)[b]?)=l
 |[],_=>rfl
 |x::r,pre=>by have bT:=Vi r (pre++[x]);simp only[pd,List.length_singleton,List.append_assoc,List.singleton_append]at bT;simp[List.range'_succ,bT]
theorem LP{α:Type}{l:List α}{seen:List Nat}(aQ:seen.Nodup)(bC:∀b∈seen,b<l.length)(lf:∀b,b<l.length→b∈seen):(seen.filterMap fun b=>l[b]?).Perm l:=by have J:=(aix aQ bC lf).filterMap fun b=>l[b]?;have U:=Vi l [];simp only[List.length_nil,bX,←List.range_eq_range']at U;rwa[U]at J
theorem KD{b:Nat}{seen:List Nat}(aQ:seen.Nodup)(aA:b∉seen):(seen++[b]).Nodup:=by rw[List.nodup_append];exact⟨aQ,by simp,by simp;intro a bF e;subst e;exact aA bF⟩
theorem cP.start{w:World}{ν:bd}{s:cJ}{args:List ah}{bc:Array Value}(oZ:iH s)(a7:Good (fu ν s) w ν s.b s.e)(ab:oS ν s)(aL:cN w ν args bc.toList):
  cP ⟨w,ν,fu ν s,bc.size,cS s⟩ ⟨j2 0 args,s.b,s.e,0,cS s⟩ {tmps:=bc,defers:=[]} w ν:=by
 have pE:=CQ aL;have kH:bc.size=args.length:=by simpa using pE
 have n4:∀k,fresh 0 (cS s) k→ν.bx k=none∧ν.ow k=none∧∀j b,¬ν.tr k j b:=by
  intro k ad;cases k with
  |loc m=>exact⟨(ab _).1 (oZ.1 m),(ab _).2.1 (oZ.2 m),(ab _).2.2⟩
  |obj m=>
   simp only[fresh,true_and]at ad;refine⟨?_,?_,(ab _).2.2⟩
   ·refine(ab _).1 ?_;cases h:look (.obj m) s.b with
    |none=>rfl
    |some x=>exact absurd (sF (.inl (by simp[h]))) ad
   ·refine(ab _).2.1 ?_;cases h:look (.obj m) s.e with
    |none=>rfl
    |some x=>exact absurd (sF (.inr (by simp[h]))) ad
 have je:∀m,(ν.bx (.obj m)≠none∨ν.ow (.obj m)≠none)→ .obj m∈cS s:=by
  intro m hm;refine Classical.byContradiction fun ax=>?_;obtain⟨J,U,_⟩:=n4 (.obj m) ⟨trivial,ax⟩;rcases hm with hm|hm
  ·exact hm J
  ·exact hm U
 refine⟨⟨a7.alt,fun k cs ad=>?_,a7.inj,fun g o eT=>?_,a7.oinj,a7.obx,a7.one,a7.otr⟩,⟨rfl,rfl,rfl,eR _,fun _ _ _=>rfl,fun b o h=>⟨h,rfl⟩,fun b o h=>.inl h,fun n b h=>h,fun n b h=>je n (.inl (by rw[h];simp)),fun m n u h=>⟨n,u,h,.inl ⟨rfl,rfl⟩⟩,fun m n u h=>je m (.inr (by rw[h];simp)),fun k j _ _ b h=>absurd h ((ab k).2.2 j b),fun k j b h=>absurd h ((ab k).2.2 j b),fun k j b h=>absurd h ((ab k).2.2 j b),fun _ _ _=>rfl⟩,rfl,rfl,fun i=>?_,n4⟩
 ·obtain⟨bl,us,el,g1,g2,g3⟩:=a7.box k cs ad;exact⟨bl,us,el,g1,.inl g2,g3⟩
 ·obtain⟨v,us,g1,g2,g3,g4⟩:=a7.own g o eT;exact⟨v,us,g1,g2,fun bl fw=>⟨.inl (g3 bl fw).1,(g3 bl fw).2⟩,g4⟩
 ·rw[IN];by_cases hi:i<args.length
  ·rw[if_pos (by omega)];have tB:args[i]? =some args[i]:=cf hi;obtain⟨v,ak,aB⟩:=Gi i aL tB;have H5:bc[i]? =some v:=by simpa using ak
   show ba w ν _ (bc.getD i undef);rw[Array.getD_eq_getD_getElem?,H5];simpa[List.getD,tB]using aB
  ·rw[if_neg (by omega)];simp[ba]
theorem bQ.sem{P:cC}{f:FuncId}{args:List ah}{s:cJ}{Q:ah→cJ→Prop}(oZ:iH s)
  (h:∀(w:World) (ν:bd) (bc:Array Value),bc.size=args.length→cP ⟨w,ν,fu ν s,bc.size,cS s⟩ ⟨j2 0 args,s.b,s.e,0,cS s⟩ {tmps:=bc,defers:=[]} w ν→
   we P f bc w fun e w'=> ∃v st' bn bp r ai,e= .returned v∧cP ⟨w,ν,fu ν s,bc.size,cS s⟩ st' bn w' bp∧ba w' bp r v∧lY ai s.b∧lY ai s.e∧gy (inObs ai) ai.b st'.b∧ot (inObs ai) ai.e st'.e∧iH ai∧aC (inObs ai) r∧Q r ai):bQ P f args s Q:=by
 intro w ν bc a7 ab aL;have kH:bc.size=args.length:=by simpa using CQ aL
 have pC:=cP.start oZ a7 ab aL;have hm:∀(e:Ending) (w':World),(∃v st' bn bp r ai,e= .returned v∧cP ⟨w,ν,fu ν s,bc.size,cS s⟩ st' bn w' bp∧ba w' bp r v∧lY ai s.b∧lY ai s.e∧gy (inObs ai) ai.b st'.b∧ot (inObs ai) ai.e st'.e∧iH ai∧aC (inObs ai) r∧Q r ai)→
   ∃v r ai bp,e= .returned v∧Q r ai∧ba w' bp r v∧Good (fun bl=>fu ν s bl∨w.heap.size≤bl) w' bp ai.b ai.e∧oS bp ai∧iH ai∧p5 ⟨w,ν,fu ν s,0,cS s⟩ w' bp:=by
  rintro e w' ⟨v,st',bn,bp,r,ai,rfl,dE,oh,kb,ke,a6,bu,bV,cW,da⟩;refine⟨v,r,ai,bp.cut (inObs ai),rfl,da,uj (oH.cut _ w' bp) _ _ cW oh,dE.good.cut a6 bu (fun bl h _=>h),?_,bV,?_⟩
  ·intro k;refine⟨?_,?_,?_⟩;rotate_left 2
   ·rintro j b ⟨ag,ae⟩;obtain⟨t1,t2⟩:=dE.fr.trn k j b ae;rcases ag with ag|ag<;>obtain⟨x,h3⟩:=fG.1 ag
    ·obtain⟨bl,cg,el,ak,_⟩:=dE.good.box k x (a6 k x h3).1;rw[t1]at ak;cases ak
    ·obtain⟨v',cg,ak,_⟩:=dE.good.own k x (bu k x h3).1;rw[t2]at ak;cases ak
   ·intro ad;by_cases ag:inObs ai k
    ·rw[bd.cut_bx ag];rcases ag with ag|ag
     ·rw[ad]at ag;cases ag
     ·obtain⟨x,h3⟩:=fG.1 ag;obtain⟨v',cg,ak,_⟩:=dE.good.own k x (bu k x h3).1;rcases dE.good.one k with J|J
      ·exact J
      ·rw[J]at ak;cases ak
    ·exact(bd.cut_no ag).1
   ·intro ad;by_cases ag:inObs ai k
    ·rw[bd.cut_ow ag];rcases ag with ag|ag
     ·obtain⟨x,h3⟩:=fG.1 ag;obtain⟨bl,cg,el,ak,_⟩:=dE.good.box k x (a6 k x h3).1;rcases dE.good.one k with J|J
      ·rw[J]at ak;cases ak
      ·exact J
     ·rw[ad]at ag;cases ag
    ·exact(bd.cut_no ag).2.1
  ·refine⟨dE.fr.os,dE.fr.tape,dE.fr.output,dE.fr.size,dE.fr.block,dE.fr.keep,dE.fr.fresh,fun n b h=>?_,dE.fr.obn,fun m n u h=>?_,dE.fr.obr,fun k j bM dA b J U=>dE.fr.trd k j bM dA b J.2 U.2,fun k j b ae=>dE.fr.trb k j b ae.2,fun k j b ae=>(by rw[bd.cut_bx ae.1,bd.cut_ow ae.1];exact dE.fr.trn k j b ae.2),dE.fr.sh⟩
   ·have ag:inObs ai (.obj n):=by
     cases au:look (.obj n) s.b with
     |none=>rw[(ab _).1 au]at h;cases h
     |some x=>exact zp kb _ (by simp[au])
    rw[bd.cut_bx ag];exact dE.fr.obj n b h
   ·have ag:inObs ai (.obj m):=by
     cases au:look (.obj m) s.e with
     |none=>rw[(ab _).2.1 au]at h;cases h
     |some x=>exact zp ke _ (by simp[au])
    rw[bd.cut_ow ag];exact dE.fr.row m n u h
 rcases h w ν bc kH pC with⟨qm,ax⟩|⟨v,w',ax,xd⟩
 ·exact .inl ⟨qm,ax.mono hm⟩
 ·exact .inr ⟨v,w',ax,hm _ _ xd⟩
theorem cP.grown{C:fa}{st:bq}{a:Act}{w w':World}{ν:bd}(h:cP C st a w ν)(a7:w.grownBy w' none):cP C st a w' ν:=by
 have kG:k9 w ν w' ν:=⟨fun b o bg=>⟨bg,DX a7 (h.good.alt b o bg)⟩,fun _ _ _ h=>h,fun _ n u _ h=>⟨n,u,h,.inl ⟨rfl,rfl⟩⟩,fun b o bg=>vQ (a7.block b (h.good.alt b o bg) (by simp)),fun _ _ _ _ h=>h⟩;refine h.over kG rfl ⟨fun b o bg=>Nat.lt_of_lt_of_le (h.good.alt b o bg) a7.size,fun k cs ad=>?_,h.good.inj,fun g o eT=>?_,h.good.oinj,h.good.obx,h.good.one,h.good.otr⟩
  ⟨a7.os.trans h.fr.os,a7.tape.trans h.fr.tape,a7.output.trans h.fr.output,j4 h.fr.size a7.size,fun k ad hm=>?_,fun b o bg=>?_,h.fr.fresh,h.fr.obj,h.fr.obn,h.fr.row,h.fr.obr,h.fr.trd,fun k j b ae=>⟨(h.fr.trb k j b ae).1,Nat.lt_of_lt_of_le (h.fr.trb k j b ae).2 a7.size⟩,h.fr.trn,fun b o bg=>(kG.sh b o (h.fr.keep b o bg).1).trans (h.fr.sh b o bg)⟩ h.new
 ·obtain⟨bl,us,el,g1,g2,g3,g4,g5⟩:=h.good.box k cs ad;exact⟨bl,us,el,g1,g2,g3,by rw[a7.block bl (Array.getElem?_eq_some_iff.1 g4).1 (by simp)];exact g4,pU kG g5⟩
 ·obtain⟨v,us,g1,g2,g3,g4⟩:=h.good.own g o eT;exact⟨v,us,g1,g2.kept a7 (by cases v.ownBlock<;>simp),g3,rF kG (fun _ _ _ h=>h) g4⟩
 ·rw[a7.block k (Nat.lt_of_lt_of_le ad h.fr.size) (by simp)];exact h.fr.block k ad hm
 ·obtain⟨aT,bz⟩:=h.fr.keep b o bg;exact⟨aT,(kG.A b o aT).2.trans bz⟩
theorem c7.new{P:cC}{n:Nat}{args:List ah}{st:bq}{d:aY Nat}{K:bq→Prop}{s:cJ}{Q:ah→cJ→Prop}(aI:bQ P n args s Q)(ag:eo s)(ae:∀k cs,look k s.b=some cs→look k st.b=some cs)(he:∀k o,look k s.e=some o→look k st.e=some o)
  (ad:aK (inObs s) args) (h:∀r ai,Q r ai→(∀m,inObs ai (.obj m)→inObs s (.obj m)∧Same s ai∨ .obj m∉st.o)∧K ⟨eK d r st.t,cv s.b st.b++ai.b,cv s.e st.e++ai.e,st.n,st.o++cS ai⟩):c7 P n args st d K:=by
 refine .inl ⟨s,Q,fun k cs ax=>⟨ae k cs ax,.inl (by simp[ax]),ag.kb k cs ax⟩,fun k o aw=>⟨he k o aw,.inr (by simp[aw]),ag.ke k o aw⟩,ag.obj,ad,aI,fun r ai bo=>?_⟩;obtain⟨J,U⟩:=h r ai bo;refine⟨⟨fun m hm=>?_,fun m hm=>?_⟩,U⟩
 ·rcases J m (.inl hm)with⟨_,ao⟩|ao
  ·exact .inl (by rw[ao.b];exact hm)
  ·exact .inr ao
 ·rcases J m (.inr hm)with⟨_,ao⟩|ao
  ·exact .inl (by rw[ao.e];exact hm)
  ·exact .inr ao
theorem cR.new{fe:List bs}{s:cJ}{Q:ah→cJ→Prop}{e:Exit}{st:bq}(ai:cJ)(tv:e= .ret∨e= .normal)(ag:eo ai)(e8:lY ai s.b∧lY ai s.e)(ae:∀k cs,look k ai.b=some cs→look k st.b=some cs)(dw:∀k o,look k ai.e=some o→look k st.e=some o)
  (h:cX st fe fun r=>aC (inObs ai) r∧Q r ai):cR fe s Q e st:=by
 unfold cX at h;split at h
 ·rename_i c ct aL;refine⟨tv,?_⟩;rw[aL];exact⟨h.1,ai,e8.1,e8.2,fun k cs dq=>⟨ae k cs dq,.inl (by simp[dq]),ag.kb k cs dq⟩,fun k o aw=>⟨dw k o aw,.inr (by simp[aw]),ag.ke k o aw⟩,ag.obj,h.2.1,h.2.2⟩
 ·exact h.elim
@[simp] theorem anu{P:cC}{ob:List aH}{c d:C}{Q:Exit→bq→Prop}{st:bq}{s:Nat}:cU P ob (.seq (.pub s c) d) Q st=wj P ob (.seq c d) Q (vI st s):=by simp only[cU];cases vI st s<;>rfl
@[simp] theorem ant{P:cC}{ob:List aH}{c d:C}{Q:Exit→bq→Prop}{st:bq}{s:Nat}:cU P ob (.seq (.pubB s c) d) Q st=wj P ob (.seq c d) Q (vH st s):=by simp only[cU];cases vH st s<;>rfl
end Go.Pv
namespace Go.Pv
open Go Go.RowKit
def tL(t:List (Nat×ah))(b9:List Nat):List (Nat×ah):=b9.map fun k=>(k,get k t)
@[simp] theorem aoz(t:List (Nat×ah)):tL t []=[]:=rfl
@[simp] theorem aoy(t:List (Nat×ah))(k:Nat)(b9:List Nat):tL t (k::b9)=(k,get k t)::tL t b9:=rfl
def o4(st:bq)(b9:List Nat)(cs:List (Nat×ah)):bq:=⟨tL st.t b9++cs,st.b,st.e,st.n,st.o⟩
theorem agd(t:List (Nat×ah))(b:List (aH×List ah))(e:List (aH×fM))(n:Nat)(o:List aH)(b9:List Nat)(cs:List (Nat×ah)):o4 ⟨t,b,e,n,o⟩ b9 cs=⟨tL t b9++cs,b,e,n,o⟩:=rfl
def yf{α:Type}(S:Nat→α→bq)(n:Nat)(gG:Nat→α→Prop)(k:Nat)(st:bq):Prop:= ∃i a,i≤n∧k=n-i∧gG i a∧st=S i a
section
variable {P:cC} {ob:List aH} {st:bq} {Q:Exit→bq→Prop} {c:C} {α:Type}
theorem hQ(S:Nat→α→bq)(n:Nat)(gG:Nat→α→Prop)(a0:α)(hw:iy ob st (S 0 a0))(bA:gG 0 a0)(u3:∀a,gG n a→(∀i,ec (get i (S n a).t))→cU P ob c (bN ob (yf S n gG) 0 Q) (S n a))
  (jv:∀i a,i<n→gG i a→(∀j,ec (get j (S i a).t))→cU P ob c (bN ob (yf S n gG) (n-i) Q) (S i a)):cU P ob (.loop c) Q st:=by
 refine oR (yf S n gG) n _ hw ⟨0,a0,by omega,by omega,bA,rfl⟩ ?_;rintro k s ⟨i,a,hi,rfl,af,rfl⟩ ae _;rcases Nat.lt_or_ge i n with h|h
 ·exact jv i a h af ae
 ·obtain rfl:i=n:=by omega
  rw[Nat.sub_self];exact u3 a af ae
theorem bN.rng{S:Nat→α→bq}{n:Nat}{gG:Nat→α→Prop}{i:Nat}(bn:α)(hi:i<n)(af:gG (i+1) bn)(hw:iy ob st (S (i+1) bn)):bN ob (yf S n gG) (n-i) Q .normal st:=⟨n-(i+1),_,by omega,hw,i+1,bn,by omega,rfl,af,rfl⟩
def AB{α:Type}(S:α→bq)(mA:α→Nat)(gG:α→Prop)(k:Nat)(st:bq):Prop:= ∃a,k=mA a∧gG a∧st=S a
theorem nW(S:α→bq)(mA:α→Nat)(gG:α→Prop)(a0:α)(hw:iy ob st (S a0))(bA:gG a0)
  (jv:∀a,gG a→(∀j,ec (get j (S a).t))→cU P ob c (bN ob (AB S mA gG) (mA a) Q) (S a)):cU P ob (.loop c) Q st:=by
 refine oR (AB S mA gG) (mA a0) _ hw ⟨a0,rfl,bA,rfl⟩ ?_;rintro k s ⟨a,rfl,af,rfl⟩ ae _;exact jv a af ae
theorem bN.whl{S:α→bq}{mA:α→Nat}{gG:α→Prop}{k:Nat}(bn:α)(hm:mA bn<k)(af:gG bn)(hw:iy ob st (S bn)):bN ob (AB S mA gG) k Q .normal st:=⟨mA bn,_,hm,hw,bn,rfl,af,rfl⟩
end
theorem hN{p:Prop}(h:p:=by(try simp[*]);(repeat' first|with_reducible refine aj ?_|with_reducible refine aD (by assumption) ?_|with_reducible refine aE (by assumption) ?_|simp[*]);(all_goals first|exact bN.rng () (by assumption) (by first|assumption|trivial) b0|exact bN.rng _ (by assumption) (by assumption) b0)):p:=h
end Go.Pv
namespace Go.Pv
open Go Go.RowKit
def lZ(s:cJ)(n:Nat)(k:aH):Prop:=inObs s k∨ ∃m,m<n∧k= .loc m
@[simp] theorem TX(s:cJ)(n m:Nat)(hm:m<n):lZ s n (.loc m):= .inr ⟨m,hm,rfl⟩
theorem zF{s:cJ}{n:Nat}{l:List ah}(h:aK (inObs s) l):aK (lZ s n) l:=jJ (fun _ h=>.inl h) l h
theorem xB{s ai:cJ}(e8:Same s ai){n:Nat}{k:aH}(h:lZ ai n k):¬fresh n (cS s) k:=by
 rcases h with h|⟨m,hm,rfl⟩
 ·exact fun aI=>aI.2 (sF ((e8.inObs k).2 h))
 ·intro aI;have:=aI.1;simp at this;omega
theorem iy.obL{s ai:cJ}(gi:eo ai)(e8:Same s ai){st:bq}{dJ:List (Nat×ah)}{L:List (aH×List ah)}{n:Nat}(aN:∀x∈dJ,get x.1 st.t=x.2∧aC (lZ ai n) x.2)(jr:∀x∈L,look x.1 st.b=some x.2∧lZ ai n x.1∧aK (lZ ai n) x.2)
  (ae:∀k cs,look k ai.b=some cs→look k st.b=some cs) (he:∀k o,look k ai.e=some o→look k st.e=some o):iy (cS s) st ⟨dJ,L++ai.b,ai.e,n,cS s⟩:=by
 refine⟨fun x ab=>⟨(aN x ab).1,vr (fun k ad=>xB e8 ad) _ (aN x ab).2⟩,fun k cs ad=>?_,fun k o aw=>?_,fun m hm=>hm⟩
 ·simp only at ad;rw[cI]at ad;cases au:look k L with
  |some x=>rw[au]at ad;simp only[dG]at ad;subst ad;obtain⟨J,U,ao⟩:=jr _ (sA au);exact⟨J,xB e8 U,jJ (fun k ad=>xB e8 ad) _ ao⟩
  |none=>rw[au]at ad;exact⟨ae k cs ad,xB e8 (.inl (.inl (by simp[ad]))),jJ (fun k ad=>xB e8 (.inl ad)) _ (gi.kb k cs ad)⟩
 ·exact⟨he k o aw,xB e8 (.inl (.inr (by simp at aw;simp[aw]))),fun xs ab=>jJ (fun k ad=>xB e8 (.inl ad)) _ (gi.ke k o aw xs ab)⟩
def gW{α:Type}(l:List α)(i j:Nat):List α:=match l[i]?,l[j]? with
 |some x,some y=>(l.set i y).set j x
 |_,_=>l
section
variable {α:Type}
@[simp] theorem afI(l:List α)(i j:Nat):(gW l i j).length=l.length:=by unfold gW;split<;>simp
theorem zw(l:List α)(i j k:Nat)(hi:i<l.length)(af:j<l.length):(gW l i j)[k]? =if k=i then l[j]? else if k=j then l[i]? else l[k]?:=by
 unfold gW;rw[cf hi,cf af];simp only[List.getElem?_set,List.length_set];by_cases J:j=k
 ·subst J;by_cases U:j=i
  ·subst U;simp[hi]
  ·simp[U,af]
 ·by_cases U:i=k
  ·subst U;simp[J,hi]
  ·simp[J,U,kP J,kP U]
theorem Tv(l:List α)(i j:Nat):(gW l i j).Perm l:=by
 unfold gW;split
 ·rename_i x y ab aG;obtain⟨hi,rfl⟩:=fL.1 ab;obtain⟨af,rfl⟩:=fL.1 aG;exact List.set_set_perm hi af
 ·exact .refl _
inductive gl (a b:Nat):List α→List α→Prop
 |refl (l:List α):gl a b l l
 |step {l m:List α} {i j:Nat}:gl a b l m→a≤i→i<b→a≤j→j<b→i<m.length→j<m.length→gl a b l (gW m i j)
theorem gl.length{a b:Nat}{l m:List α}(h:gl a b l m):m.length=l.length:=by
 induction h with
 |refl=>rfl
 |step _ _ _ _ _ _ _ bT=>rw[afI,bT]
theorem gl.perm{a b:Nat}{l m:List α}(h:gl a b l m):m.Perm l:=by
 induction h with
 |refl=>exact .refl _
 |step _ _ _ _ _ _ _ bT=>exact(Tv _ _ _).trans bT
theorem gl.out{a b:Nat}{l m:List α}(h:gl a b l m)(k:Nat)(ad:k<a∨b≤k):m[k]? =l[k]?:=by
 induction h with
 |refl=>rfl
 |step _ J U ao a8 bZ c4 bT=>rw[zw _ _ _ _ bZ c4,if_neg (by omega),if_neg (by omega)];exact bT
theorem gl.all{a b:Nat}{l m:List α}(h:gl a b l m)(p:α→Prop)(bJ:∀k x,a≤k→k<b→l[k]? =some x→p x):∀k x,a≤k→k<b→m[k]? =some x→p x:=by
 induction h with
 |refl=>exact bJ
 |step _ J U ao a8 bZ c4 bT=>
  intro k x gn kV ab;rw[zw _ _ _ _ bZ c4]at ab;split at ab
  ·exact bT _ _ ao a8 ab
  ·split at ab
   ·exact bT _ _ J U ab
   ·exact bT _ _ gn kV ab
theorem gl.trans{a b:Nat}{l m r:List α}(h:gl a b l m)(cr:gl a b m r):gl a b l r:=by
 induction cr with
 |refl=>exact h
 |step _ J U ao a8 bZ c4 bT=>exact .step bT J U ao a8 bZ c4
theorem gl.mono{a b bn bO:Nat}{l m:List α}(h:gl a b l m)(bF:bn≤a)(ae:b≤bO):gl bn bO l m:=by
 induction h with
 |refl=>exact .refl _
 |step _ J U ao a8 bZ c4 bT=>exact .step bT (by omega) (by omega) (by omega) (by omega) bZ c4
def e7(lt:α→α→Bool)(a b:Nat)(l:List α):Prop:= ∀i j x y,a≤i→i<j→j<b→l[i]? =some x→l[j]? =some y→lt y x=false
structure p6 (lt:α→α→Bool):Prop where
 asym:∀x y,lt x y=true→lt y x=false
 ntr:∀x y z,lt y x=false→lt z y=false→lt z x=false
theorem e7.pairwise{lt:α→α→Bool}{l:List α}(h:e7 lt 0 l.length l):l.Pairwise fun x y=>lt y x=false:=by rw[pg];intro i j hi af lR;exact h i j _ _ (by omega) lR af (cf hi) (cf af)
def hO(a m b k:Nat):Nat:=if k<a then k else if k<a+(b-m)then k+(m-a)else if k<b then k-(b-m)else k
def rI(a b c k:Nat):Nat:=if a≤k∧k<a+c then b+(k-a)else if b≤k∧k<b+c then a+(k-b)else k
end
theorem Er(i j:Nat)(h:i+j≤1099511627776):IntKind.i64.wrap (Int.fdiv (hb.wrap ((i:Int)+j)) (2 ^ (min 1 hb.bits)))=((i+j)/2:Nat):=by
 have hw:hb.wrap ((i:Int)+j)=i+j:=by simp[rQ,nJ,rP];omega
 have IZ:hb.bits=64:=rfl;rw[hw,IZ,show(2:Int) ^ (min 1 64)=2 from by decide,Int.fdiv_eq_ediv_of_nonneg _ (by omega),oC]
 ·omega
 ·omega
end Go.Pv
namespace Go.Pv
open Go
inductive bG where
 |mk (kind n:Int) (name:List dz) (args:List bG)
def bG.kind:bG→Int| .mk k _ _ _=>k
def bG.num:bG→Int| .mk _ n _ _=>n
def bG.name:bG→List dz| .mk _ _ s _=>s
def bG.args:bG→List bG| .mk _ _ _ a=>a
mutual
def enc:bG→ah
 | .mk k n s a=>.agg [.int .i64 k,.int .i64 n,.str s,.slice 4 .no (oP a)]
def oP:List bG→List ah
 |[]=>[]
 |x::xs=>enc x::oP xs
end
theorem D5:∀l,oP l=l.map enc
 |[]=>rfl
 |x::xs=>by simp[oP,D5 xs]
theorem uR(t:bG):enc t= .agg [.int .i64 t.kind,.int .i64 t.num,.str t.name,.slice 4 .no (t.args.map enc)]:=by cases t;simp[enc,D5,bG.kind,bG.num,bG.name,bG.args]
mutual
theorem Td(S:aH→Prop):∀t:bG,aC S (enc t)
 | .mk k n s a=>by simp[enc,aC,aK,J0 S a]
theorem J0(S:aH→Prop):∀l:List bG,aK S (oP l)
 |[]=>by simp[oP,aK]
 |x::xs=>by simp[oP,aK,Td S x,J0 S xs]
end
mutual
theorem V0:∀t:bG,ds (enc t)=enc t
 | .mk k n s a=>by simp[enc,ds,cY,L0 a]
theorem L0:∀l:List bG,cY (oP l)=oP l
 |[]=>by simp[oP,cY]
 |x::xs=>by simp[oP,cY,V0 x,L0 xs]
end
@[simp] theorem aoZ(S:aH→Prop)(t:bG):aC S (enc t)=True:=eq_true (Td S t)
@[simp] theorem aoK(S:aH→Prop)(l:List bG):aK S (l.map enc)=True:=by rw[←D5];exact eq_true (J0 S l)
theorem akC(l:List bG):cY (l.map enc)=l.map enc:=by rw[←D5];exact L0 l
attribute [simp] V0 akC
@[simp] theorem aq4(t:bG):dY (enc t)=true:=by rw[uR];rfl
@[simp] theorem am6(t:bG):cells (enc t)=[.int .i64 t.kind,.int .i64 t.num,.str t.name,.slice 4 .no (t.args.map enc)]:=by rw[uR];rfl
@[simp] theorem amI(t:bG):ah.agg [.int .i64 t.kind,.int .i64 t.num,.str t.name,.slice 4 .no (t.args.map enc)]=enc t:=(uR t).symm
@[simp] theorem anN(off:Nat)(e1:Bool)(sz:Nat)(t:bG):qV off e1 sz (enc t)=if e1 then some (off+sz≤4,.agg (([.int .i64 t.kind,.int .i64 t.num,.str t.name,.slice 4 .no (t.args.map enc)].drop off).take sz))else(([.int .i64 t.kind,.int .i64 t.num,.str t.name,.slice 4 .no (t.args.map enc)]:List ah)[off]?).map fun p=>(True,p):=by rw[uR];rfl
@[simp] theorem anD(off:Nat)(e1:Bool)(sz:Nat)(t:bG):pw off e1 sz (.eptr (enc t))=if e1 then some (off+sz≤4,.eptr (.agg (([.int .i64 t.kind,.int .i64 t.num,.str t.name,.slice 4 .no (t.args.map enc)].drop off).take sz)))else(([.int .i64 t.kind,.int .i64 t.num,.str t.name,.slice 4 .no (t.args.map enc)]:List ah)[off]?).map fun p=>(dY p=true∧cells p=[p],.eptr p):=by rw[uR];rfl
@[simp] theorem aos(t:bG):Pv.isAgg 4 (enc t):=by rw[uR];exact⟨_,rfl,rfl⟩
inductive T where
 |nil
 |var (n:Int)
 |sym (s:List dz)
 |num (n:Int)
 |pair (a b:T)
 deriving DecidableEq,Inhabited
def T.tm:T→bG
 | .nil=>.mk 0 0 [] []
 | .var n=>.mk 1 n [] []
 | .sym s=>.mk 2 0 s []
 | .num n=>.mk 3 n [] []
 | .pair a b=>.mk 4 0 [] [a.tm,b.tm]
def T.e:T→ah
 | .nil=>.agg [.int .i64 0,.int .i64 0,.str [],.slice 4 .no []]
 | .var n=>.agg [.int .i64 1,.int .i64 n,.str [],.slice 4 .no []]
 | .sym s=>.agg [.int .i64 2,.int .i64 0,.str s,.slice 4 .no []]
 | .num n=>.agg [.int .i64 3,.int .i64 n,.str [],.slice 4 .no []]
 | .pair a b=>.agg [.int .i64 4,.int .i64 0,.str [],.slice 4 .no [a.e,b.e]]
theorem iQ:∀t:T,enc t.tm=t.e
 | .nil| .var _| .sym _| .num _=>rfl
 | .pair a b=>by simp[T.tm,enc,oP,T.e,iQ a,iQ b]
def T.kind:T→Int
 | .nil=>0| .var _=>1| .sym _=>2| .num _=>3| .pair _ _=>4
def T.int:T→Int
 | .var n=>n| .num n=>n|_=>0
def T.name:T→List dz
 | .sym s=>s|_=>[]
def T.args:T→List T
 | .pair a b=>[a,b]|_=>[]
theorem T.e_eq(t:T):t.e= .agg [.int .i64 t.kind,.int .i64 t.int,.str t.name,.slice 4 .no (t.args.map T.e)]:=by cases t<;>rfl
@[simp] theorem amH(t:T):ah.agg [.int .i64 t.kind,.int .i64 t.int,.str t.name,.slice 4 .no (t.args.map T.e)]=t.e:=(T.e_eq t).symm
@[simp] theorem amJ:ah.agg [.int .i64 0,.int .i64 0,.str [],.slice 4 .no []]=T.nil.e:=rfl
@[simp] theorem amN(n:Int):ah.agg [.int .i64 1,.int .i64 n,.str [],.slice 4 .no []]=(T.var n).e:=rfl
@[simp] theorem amM(s:List dz):ah.agg [.int .i64 2,.int .i64 0,.str s,.slice 4 .no []]=(T.sym s).e:=rfl
@[simp] theorem amK(n:Int):ah.agg [.int .i64 3,.int .i64 n,.str [],.slice 4 .no []]=(T.num n).e:=rfl
@[simp] theorem amL(a b:T):ah.agg [.int .i64 4,.int .i64 0,.str [],.slice 4 .no [a.e,b.e]]=(T.pair a b).e:=rfl
@[simp] theorem anM(off:Nat)(e1:Bool)(sz:Nat)(t:T):qV off e1 sz t.e=if e1 then some (off+sz≤4,.agg (([.int .i64 t.kind,.int .i64 t.int,.str t.name,.slice 4 .no (t.args.map T.e)].drop off).take sz))else(([.int .i64 t.kind,.int .i64 t.int,.str t.name,.slice 4 .no (t.args.map T.e)]:List ah)[off]?).map fun p=>(True,p):=by rw[T.e_eq];rfl
@[simp] theorem anC(off:Nat)(e1:Bool)(sz:Nat)(t:T):pw off e1 sz (.eptr t.e)=if e1 then some (off+sz≤4,.eptr (.agg (([.int .i64 t.kind,.int .i64 t.int,.str t.name,.slice 4 .no (t.args.map T.e)].drop off).take sz)))else(([.int .i64 t.kind,.int .i64 t.int,.str t.name,.slice 4 .no (t.args.map T.e)]:List ah)[off]?).map fun p=>(dY p=true∧cells p=[p],.eptr p):=by rw[T.e_eq];rfl
@[simp] theorem afr:(T.nil).kind=0:=rfl
@[simp] theorem aeV:(T.nil).int=0:=rfl
@[simp] theorem agj:(T.nil).name=[]:=rfl
@[simp] theorem XN:(T.nil).args=[]:=rfl
@[simp] theorem afw(n:Int):(T.var n).kind=1:=rfl
@[simp] theorem aeZ(n:Int):(T.var n).int=n:=rfl
@[simp] theorem ago(n:Int):(T.var n).name=[]:=rfl
@[simp] theorem XR(n:Int):(T.var n).args=[]:=rfl
@[simp] theorem afv(s:List dz):(T.sym s).kind=2:=rfl
@[simp] theorem aeY(s:List dz):(T.sym s).int=0:=rfl
@[simp] theorem agn(s:List dz):(T.sym s).name=s:=rfl
@[simp] theorem XQ(s:List dz):(T.sym s).args=[]:=rfl
@[simp] theorem afs(n:Int):(T.num n).kind=3:=rfl
@[simp] theorem aeW(n:Int):(T.num n).int=n:=rfl
@[simp] theorem agk(n:Int):(T.num n).name=[]:=rfl
@[simp] theorem XO(n:Int):(T.num n).args=[]:=rfl
@[simp] theorem aft(a b:T):(T.pair a b).kind=4:=rfl
@[simp] theorem aeX(a b:T):(T.pair a b).int=0:=rfl
@[simp] theorem agl(a b:T):(T.pair a b).name=[]:=rfl
@[simp] theorem XP(a b:T):(T.pair a b).args=[a,b]:=rfl
@[simp] theorem aoY(S:aH→Prop)(t:T):aC S t.e=True:=by rw[←iQ];simp
@[simp] theorem arz(t:T):ds t.e=t.e:=by rw[←iQ];simp
theorem S6(S:aH→Prop):∀l:List T,aK S (l.map T.e)
 |[]=>by simp[aK]
 |x::xs=>by simp[aK,S6 S xs]
@[simp] theorem S5(S:aH→Prop)(l:List T):aK S (l.map T.e)=True:=eq_true (S6 S l)
@[simp] theorem akB:∀l:List T,cY (l.map T.e)=l.map T.e
 |[]=>rfl
 |x::xs=>by simp[cY,akB xs]
@[simp] theorem aq3(t:T):dY t.e=true:=by rw[T.e_eq];rfl
@[simp] theorem am5(t:T):cells t.e=[.int .i64 t.kind,.int .i64 t.int,.str t.name,.slice 4 .no (t.args.map T.e)]:=by rw[T.e_eq];rfl
@[simp] theorem aor(t:T):Pv.isAgg 4 t.e:=by rw[T.e_eq];exact⟨_,rfl,rfl⟩
def T.size:T→Nat
 | .pair a b=>1+a.size+b.size
 |_=>1
theorem T.size_pos(t:T):1≤t.size:=by cases t<;>simp[T.size]<;>omega
def low(b:dz):Bool:=decide (97≤b.toNat∧b.toNat≤122)
def mj(b:dz):Bool:=low b||decide (48≤b.toNat∧b.toNat≤57)||b.toNat==45
def jw(s:List dz):Bool:=decide (1≤s.length∧s.length≤12)&&low (s.getD 0 0)&&(s.drop 1).all mj
def T.ok:T→Bool
 | .nil=>true
 | .var n=>decide (0≤n∧n≤100000)
 | .sym s=>jw s
 | .num n=>decide (-1000000000≤n∧n≤1000000000)
 | .pair a b=>a.ok&&b.ok
def k2(k n:Int)(s:List dz):Bool:=if k=0 then n==0&&s==[]else if k=1 then decide (0≤n∧n≤100000)&&s==[]else if k=2 then n==0&&jw s else if k=3 then decide (-1000000000≤n∧n≤1000000000)&&s==[]else false
def fo:bG→Int→Int
 | .mk k n s [a,b],room=>if room<1∨k≠4∨n≠0∨s≠[]then-1 else if fo a (room-1)<0 then-1 else if fo b (room-1-fo a (room-1))<0 then-1 else 1+fo a (room-1)+fo b (room-1-fo a (room-1))
 | .mk k n s args,room=>if room<1∨k=4∨args≠[]∨k2 k n s=false then-1 else 1
theorem KA(k n:Int)(s:List dz)(args:List bG)(room:Int):fo (.mk k n s args) room=if room<1 then-1 else if k≠4 then(if args≠[]then-1 else if k2 k n s then 1 else-1)else if n≠0∨s≠[]then-1 else match args with
  |[a,b]=>if fo a (room-1)<0 then-1 else if fo b (room-1-fo a (room-1))<0 then-1 else 1+fo a (room-1)+fo b (room-1-fo a (room-1))
  |_=> -1:=by
 match args with
 |[]=>simp only[fo];by_cases J:room<1<;>by_cases U:k=4<;>by_cases ao:k2 k n s=true<;>simp[J,U,ao]
 |[a]=>simp[fo]
 |[a,b]=>simp only[fo];by_cases J:room<1<;>by_cases U:k=4<;>simp[J,U]
 |a::b::c::r=>simp[fo]
theorem FC:∀(t:T) (room:Int),fo t.tm room=if t.ok=true∧(t.size:Int)≤room then(t.size:Int)else-1
 | .nil,room=>by simp[T.tm,fo,T.ok,T.size,k2];split<;>rename_i h<;>simp_all<;>omega
 | .var n,room=>by simp[T.tm,fo,T.ok,T.size,k2];split<;>split<;>simp_all<;>omega
 | .sym s,room=>by simp[T.tm,fo,T.ok,T.size,k2];by_cases J:room<1<;>by_cases U:jw s=true<;>simp[J,U]<;>omega
 | .num n,room=>by simp[T.tm,fo,T.ok,T.size,k2];split<;>split<;>simp_all<;>omega
 | .pair a b,room=>by
  have bF:=a.size_pos;have ae:=b.size_pos;simp only[T.tm,fo,FC a,FC b,T.ok,T.size,cA];by_cases J:room<1
  ·simp[J];omega
  ·by_cases U:a.ok=true∧(a.size:Int)≤room-1
   ·rw[if_pos U];by_cases ao:b.ok=true∧(b.size:Int)≤room-1-a.size
    ·rw[if_pos ao];simp[J,U.1,ao.1];split<;>omega
    ·rw[if_neg ao];simp[J,U.1];intro lg;have:=ao;simp[lg]at this;omega
   ·rw[if_neg U];simp[J];intro kU;have:=U;simp[kU]at this;omega
theorem Cp:∀(t:bG) (room:Int),fo t room= -1∨1≤fo t room
 | .mk k n s [a,b],room=>by
  simp only[fo];split
  ·exact .inl rfl
  ·split
   ·exact .inl rfl
   ·split
    ·exact .inl rfl
    ·right;omega
 | .mk k n s [],room=>by simp only[fo];split<;>simp
 | .mk k n s [a],room=>by simp[fo]
 | .mk k n s (a::b::c::r),room=>by simp[fo]
theorem KC:∀(t:bG) (room:Int),0<fo t room→∃x:T,x.tm=t
 | .mk k n s [a,b],room,h=>by
  simp only[fo]at h;split at h
  ·omega
  ·rename_i J;simp only[not_or,Int.not_lt,ne_eq,arO]at J;obtain⟨J,rfl,rfl,rfl⟩:=J;split at h
   ·omega
   ·split at h
    ·omega
    ·obtain⟨x,rfl⟩:=KC a (room-1) (by rcases Cp a (room-1)with h|h<;>omega);obtain⟨y,rfl⟩:=KC b (room-1-fo x.tm (room-1)) (by rcases Cp b (room-1-fo x.tm (room-1))with h|h<;>omega);exact⟨.pair x y,rfl⟩
 | .mk k n s [],room,h=>by
  simp only[fo]at h;split at h
  ·omega
  ·rename_i J;simp only[not_or,ne_eq,not_true_eq_false,not_false_eq_true,true_and,Bool.not_eq_false]at J;obtain⟨_,_,J⟩:=J;unfold k2 at J;split at J
   ·rename_i e;subst e;simp at J;obtain⟨rfl,rfl⟩:=J;exact⟨.nil,rfl⟩
   ·split at J
    ·rename_i e;subst e;simp at J;obtain⟨_,rfl⟩:=J;exact⟨.var n,rfl⟩
    ·split at J
     ·rename_i e;subst e;simp at J;obtain⟨rfl,_⟩:=J;exact⟨.sym s,rfl⟩
     ·split at J
      ·rename_i e;subst e;simp at J;obtain⟨_,rfl⟩:=J;exact⟨.num n,rfl⟩
      ·cases J
 | .mk k n s [a],room,h=>by simp[fo]at h
 | .mk k n s (a::b::c::r),room,h=>by simp[fo]at h
theorem KB:∀(t:bG) (room:Int),fo t room≤room∨fo t room= -1
 | .mk k n s [a,b],room=>by
  simp only[fo];split
  ·exact .inr rfl
  ·split
   ·exact .inr rfl
   ·split
    ·exact .inr rfl
    ·rcases KB b (room-1-fo a (room-1))with h|h<;>omega
 | .mk k n s [],room=>by simp only[fo];split<;>simp;rename_i h;omega
 | .mk k n s [a],room=>by simp[fo]
 | .mk k n s (a::b::c::r),room=>by simp[fo]
mutual
def bG.sz:bG→Nat
 | .mk _ _ _ a=>1+bG.szL a
def bG.szL:List bG→Nat
 |[]=>0
 |x::xs=>x.sz+bG.szL xs
end
theorem szL_mem:∀{l:List bG} {x:bG},x∈l→x.sz≤bG.szL l
 |y::l,x,h=>by
  rcases fU.1 h with rfl|h
  ·simp[bG.szL]
  ·have:=szL_mem h;simp[bG.szL];omega
theorem Ma{t x:bG}(h:x∈t.args):x.sz<t.sz:=by cases t;simp[bG.args]at h;have:=szL_mem h;simp[bG.sz];omega
def T.fit(t:T):Bool:=t.ok&&decide (t.size≤5000)
def bG.fits(t:bG):Bool:=decide (0<fo t 5000)
theorem bG.fits_T(t:T):t.tm.fits=t.fit:=by
 unfold bG.fits T.fit;rw[FC];have:=t.size_pos;by_cases J:t.ok=true<;>by_cases U:t.size≤5000
 ·rw[if_pos ⟨J,by omega⟩];simp[J,U];omega
 ·rw[if_neg (by omega)];simp[U]
 ·rw[if_neg (by simp[J])];simp[J]
 ·rw[if_neg (by simp[J])];simp[J]
theorem bG.fits_ex{t:bG}(h:t.fits=true):∃x:T,x.tm=t∧x.fit=true:=by obtain⟨x,rfl⟩:=KC t 5000 (by simpa[bG.fits]using h);exact⟨x,rfl,by rw[←bG.fits_T];exact h⟩
structure ar where
 v:Int
 t:T
 deriving DecidableEq,Inhabited
def ar.e(b:ar):ah:= .agg [.int .i64 b.v,.int .i64 b.t.kind,.int .i64 b.t.int,.str b.t.name,.slice 4 .no (b.t.args.map T.e)]
@[simp] theorem ar.eta(b:ar):ar.mk b.v b.t=b:=rfl
@[simp] theorem M2(v:Int)(t:T):ah.agg [.int .i64 v,.int .i64 t.kind,.int .i64 t.int,.str t.name,.slice 4 .no (t.args.map T.e)]=(ar.mk v t).e:=rfl
@[simp] theorem amC(v:Int):ah.agg [.int .i64 v,.int .i64 0,.int .i64 0,.str [],.slice 4 .no []]=(ar.mk v .nil).e:=rfl
@[simp] theorem amG(v n:Int):ah.agg [.int .i64 v,.int .i64 1,.int .i64 n,.str [],.slice 4 .no []]=(ar.mk v (.var n)).e:=rfl
@[simp] theorem amF(v:Int)(s:List dz):ah.agg [.int .i64 v,.int .i64 2,.int .i64 0,.str s,.slice 4 .no []]=(ar.mk v (.sym s)).e:=rfl
@[simp] theorem amD(v n:Int):ah.agg [.int .i64 v,.int .i64 3,.int .i64 n,.str [],.slice 4 .no []]=(ar.mk v (.num n)).e:=rfl
@[simp] theorem amE(v:Int)(a b:T):ah.agg [.int .i64 v,.int .i64 4,.int .i64 0,.str [],.slice 4 .no [a.e,b.e]]=(ar.mk v (.pair a b)).e:=rfl
@[simp] theorem aoR(S:aH→Prop)(b:ar):aC S b.e=True:=by simp[ar.e,-M2]
@[simp] theorem ars(b:ar):ds b.e=b.e:=by simp[ar.e,-M2]
theorem S2(S:aH→Prop):∀l:List ar,aK S (l.map ar.e)
 |[]=>by simp[aK]
 |x::xs=>by simp[aK,S2 S xs]
@[simp] theorem aoG(S:aH→Prop)(l:List ar):aK S (l.map ar.e)=True:=eq_true (S2 S l)
@[simp] theorem VZ:∀l:List ar,cY (l.map ar.e)=l.map ar.e
 |[]=>rfl
 |x::xs=>by simp[cY,VZ xs]
@[simp] theorem aqT(b:ar):dY b.e=true:=rfl
@[simp] theorem amX(b:ar):cells b.e=[.int .i64 b.v,.int .i64 b.t.kind,.int .i64 b.t.int,.str b.t.name,.slice 4 .no (b.t.args.map T.e)]:=rfl
@[simp] theorem aoo(b:ar):Pv.isAgg 5 b.e:=⟨_,rfl,rfl⟩
@[simp] theorem anK(off:Nat)(e1:Bool)(sz:Nat)(b:ar):qV off e1 sz b.e=if e1 then some (off+sz≤5,.agg (([.int .i64 b.v,.int .i64 b.t.kind,.int .i64 b.t.int,.str b.t.name,.slice 4 .no (b.t.args.map T.e)].drop off).take sz))else(([.int .i64 b.v,.int .i64 b.t.kind,.int .i64 b.t.int,.str b.t.name,.slice 4 .no (b.t.args.map T.e)]:List ah)[off]?).map fun p=>(True,p):=rfl
@[simp] theorem anA(off:Nat)(e1:Bool)(sz:Nat)(b:ar):pw off e1 sz (.eptr b.e)=if e1 then some (off+sz≤5,.eptr (.agg (([.int .i64 b.v,.int .i64 b.t.kind,.int .i64 b.t.int,.str b.t.name,.slice 4 .no (b.t.args.map T.e)].drop off).take sz)))else(([.int .i64 b.v,.int .i64 b.t.kind,.int .i64 b.t.int,.str b.t.name,.slice 4 .no (b.t.args.map T.e)]:List ah)[off]?).map fun p=>(dY p=true∧cells p=[p],.eptr p):=rfl
def T.occ(v:Int):T→Bool
 | .var n=>n==v
 | .pair a b=>a.occ v||b.occ v
 |_=>false
def ev(a b:Int):Int:=if a<b then-1 else if b<a then 1 else 0
def kr(a b:List dz):Int:=if a=b then 0 else if hk a b then-1 else 1
def er:T→T→Int
 | .pair a b,.pair c d=>if er a c=0 then er b d else er a c
 |x,y=>if x.kind≠y.kind then ev x.kind y.kind else if x.int≠y.int then ev x.int y.int else kr x.name y.name
structure cT where
 v:Int
 t:bG
def cT.e(b:cT):ah:= .agg [.int .i64 b.v,.int .i64 b.t.kind,.int .i64 b.t.num,.str b.t.name,.slice 4 .no (b.t.args.map enc)]
def ar.b(b:ar):cT:=⟨b.v,b.t.tm⟩
theorem ar.b_e(b:ar):b.b.e=b.e:=by obtain⟨v,t⟩:=b;cases t<;>simp only[ar.b,cT.e,ar.e,T.tm,bG.kind,bG.num,bG.name,bG.args,iQ,afr,afw,afv,afs,aft,aeV,aeZ,aeY,aeW,aeX,agj,ago,agn,agk,agl,XN,XR,XQ,XO,XP,gE,pe]
@[simp] theorem cT.eta(b:cT):cT.mk b.v b.t=b:=rfl
@[simp] theorem M3(v:Int)(t:bG):ah.agg [.int .i64 v,.int .i64 t.kind,.int .i64 t.num,.str t.name,.slice 4 .no (t.args.map enc)]=(cT.mk v t).e:=rfl
@[simp] theorem aoT(S:aH→Prop)(b:cT):aC S b.e=True:=by simp[cT.e,-M3]
@[simp] theorem aru(b:cT):ds b.e=b.e:=by simp[cT.e,-M3]
theorem S4(S:aH→Prop):∀l:List cT,aK S (l.map cT.e)
 |[]=>by simp[aK]
 |x::xs=>by simp[aK,S4 S xs]
@[simp] theorem aoI(S:aH→Prop)(l:List cT):aK S (l.map cT.e)=True:=eq_true (S4 S l)
@[simp] theorem akA:∀l:List cT,cY (l.map cT.e)=l.map cT.e
 |[]=>rfl
 |x::xs=>by simp[cY,akA xs]
@[simp] theorem aqW(b:cT):dY b.e=true:=rfl
@[simp] theorem am0(b:cT):cells b.e=[.int .i64 b.v,.int .i64 b.t.kind,.int .i64 b.t.num,.str b.t.name,.slice 4 .no (b.t.args.map enc)]:=rfl
@[simp] theorem aoq(b:cT):Pv.isAgg 5 b.e:=⟨_,rfl,rfl⟩
@[simp] theorem anL(off:Nat)(e1:Bool)(sz:Nat)(b:cT):qV off e1 sz b.e=if e1 then some (off+sz≤5,.agg (([.int .i64 b.v,.int .i64 b.t.kind,.int .i64 b.t.num,.str b.t.name,.slice 4 .no (b.t.args.map enc)].drop off).take sz))else(([.int .i64 b.v,.int .i64 b.t.kind,.int .i64 b.t.num,.str b.t.name,.slice 4 .no (b.t.args.map enc)]:List ah)[off]?).map fun p=>(True,p):=rfl
@[simp] theorem anB(off:Nat)(e1:Bool)(sz:Nat)(b:cT):pw off e1 sz (.eptr b.e)=if e1 then some (off+sz≤5,.eptr (.agg (([.int .i64 b.v,.int .i64 b.t.kind,.int .i64 b.t.num,.str b.t.name,.slice 4 .no (b.t.args.map enc)].drop off).take sz)))else(([.int .i64 b.v,.int .i64 b.t.kind,.int .i64 b.t.num,.str b.t.name,.slice 4 .no (b.t.args.map enc)]:List ah)[off]?).map fun p=>(dY p=true∧cells p=[p],.eptr p):=rfl
def zH(l:List cT)(i:Nat):Prop:= ∀b,l[i]? =some b→(0≤b.v∧b.v≤100000)∧(∀c,0<i→l[i-1]? =some c→c.v<b.v)∧b.t.fits=true
def yj(l:List cT):Prop:=l.length≤400∧∀i,i<l.length→zH l i
theorem qz:∀a b:T,er a b=0↔a=b
 | .pair a b,.pair c d=>by
  simp only[er,T.pair.injEq];split
  ·rename_i h;rw[qz b d,←qz a c];simp[h]
  ·rename_i h;simp[h,←qz a c]
 | .nil,y=>by cases y<;>simp[er,ev,kr]
 | .var n,y=>by cases y<;>simp[er,ev,kr]<;>omega
 | .sym s,y=>by cases y<;>simp[er,ev,kr];rename_i ai;by_cases h:s=ai<;>simp[h];by_cases U:hk s ai=true<;>simp[U]
 | .num n,y=>by cases y<;>simp[er,ev,kr]<;>omega
 | .pair a b,.nil| .pair a b,.var _| .pair a b,.sym _| .pair a b,.num _=>by simp[er,ev]
def T.sub(f:Int→aY T):T→T
 | .var n=>match f n with|some x=>x|none=>.var n
 | .pair a b=>.pair (a.sub f) (b.sub f)
 |t=>t
def k3(f:Int→Int):T→Int
 | .var n=>if 5001<f n then 5001 else f n
 | .pair a b=>if 5000<k3 f a then k3 f a else if 5001<1+k3 f a+k3 f b then 5001 else 1+k3 f a+k3 f b
 |_=>1
theorem Gw(f:Int→Int)(aI:∀v,-1≤f v):∀t,-1≤k3 f t∧k3 f t≤5001
 | .var n=>by have:=aI n;simp only[k3];split<;>omega
 | .pair a b=>by have:=Gw f aI a;have:=Gw f aI b;simp only[k3];split<;>(try split)<;>omega
 | .nil| .sym _| .num _=>by simp[k3]
def dh(l:List ar)(v:Int):aY T:=(l.find? fun b=>b.v==v).map (·.t)
end Go.Pv
namespace Go.Pv
open Go
structure jl {α:Type} (c:α→α→Int):Prop where
 neg:∀a b,c b a= -c a b
 tr:∀a b d,c a b≤0→c b d≤0→c a d≤0
 zero:∀a b,c a b=0↔a=b
section
variable {α:Type} {c:α→α→Int}
def hA(c:α→α→Int)(a b:α):Bool:=decide (c a b<0)
theorem jl.ltOk(h:jl c):p6 (hA c):=by
 refine⟨fun x y hJ=>?_,fun x y z J U=>?_⟩
 ·simp only[hA,fH,hE]at hJ⊢;rw[h.neg x y];omega
 ·simp only[hA,hE]at J U⊢;have ak:=h.neg x y;have aB:=h.neg y z;have bj:=h.neg x z;have:=h.tr x y z (by omega) (by omega);omega
theorem jl.refl(h:jl c)(a:α):c a a=0:=(h.zero a a).2 rfl
theorem jl.ltr(h:jl c){a b d:α}(J:c a b<0)(U:c b d≤0):c a d<0:=by
 have ao:=h.tr a b d (by omega) U;rcases(by omega:c a d<0∨c a d=0)with a8|a8
 ·exact a8
 ·obtain rfl:=(h.zero a d).1 a8;have:=h.neg a b;omega
def oq(c:α→α→Int)(l:List α):List α:=l.mergeSort fun x y=>decide (c x y≤0)
theorem x3(c:α→α→Int)(l:List α):(oq c l).Perm l:=List.mergeSort_perm l _
theorem LY(h:jl c)(l:List α):(oq c l).Pairwise fun x y=>c x y≤0:=by have:=List.pairwise_mergeSort (le:=fun x y=>decide (c x y≤0)) (fun a b d J U=>by simp at J U⊢;exact h.tr a b d J U) (fun a b=>by simp;have:=h.neg a b;omega) l;exact this.imp (by simp)
theorem VW(h:jl c){l a1:List α}(bJ:a1.Perm l)(ag:a1.Pairwise fun x y=>hA c y x=false):a1=oq c l:=by refine ML (le:=fun x y=>c x y≤0) (fun x y _ _ J U=>(h.zero x y).1 (by have:=h.neg x y;omega)) (ag.imp fun{x y} hJ=>?_) (LY h l) (bJ.trans (x3 c l).symm);simp only[hA,hE]at hJ;have:=h.neg x y;omega
def cG[DecidableEq α](p:aY α):List α→List α
 |[]=>[]
 |x::r=>if p=some x then cG (some x) r else x::cG (some x) r
def asc[DecidableEq α](c:α→α→Int)(l:List α):List α:=cG none (oq c l)
def hF(c:α→α→Int)(l:List α):Prop:=l.Pairwise fun x y=>c x y<0
variable [DecidableEq α]
theorem HZ:∀(l:List α) (p:aY α) (x:α),x∈cG p l→x∈l
 |[],_,_,h=>by simp[cG]at h
 |y::r,p,x,h=>by
  simp only[cG]at h;split at h
  ·exact pf _ (HZ r _ x h)
  ·rcases fU.1 h with rfl|h
   ·simp
   ·exact pf _ (HZ r _ x h)
theorem Kn:∀(l:List α) (p:aY α) (x:α),x∈l→x∈cG p l∨p=some x
 |y::r,p,x,h=>by
  simp only[cG];rcases fU.1 h with rfl|h
  ·split
   ·rename_i U;exact .inr U
   ·simp
  ·split
   ·rename_i U;rcases Kn r (some y) x h with ao|ao
    ·exact .inl ao
    ·cases ao;exact .inr U
   ·rcases Kn r (some y) x h with ao|ao
    ·exact .inl (pf _ ao)
    ·cases ao;simp
theorem PW(ax:jl c):∀(l:List α) (p:aY α),l.Pairwise (fun x y=>c x y≤0)→(∀y,p=some y→∀x∈l,c y x≤0)→hF c (cG p l)∧∀y,p=some y→∀x∈cG p l,c y x<0
 |[],p,_,_=>⟨arV,fun y _ x ab=>by simp[cG]at ab⟩
 |z::r,p,h,bJ=>by
  obtain⟨J,U⟩:=mC.1 h;have bT:=PW ax r (some z) U (fun y aG x ab=>by cases aG;exact J x ab);simp only[cG];split
  ·rename_i ao;subst ao;exact bT
  ·rename_i ao;refine⟨mC.2 ⟨fun x ab=>bT.2 z rfl x ab,bT.1⟩,fun y aG x ab=>?_⟩;subst aG;have rj:c y z<0:=by
    have a8:=bJ y rfl z (by simp);rcases(by omega:c y z<0∨c y z=0)with bZ|bZ
    ·exact bZ
    ·exact absurd (e5 some ((ax.zero y z).1 bZ)) ao
   rcases fU.1 ab with rfl|ab
   ·exact rj
   ·exact ax.ltr rj (by have:=bT.2 z rfl x ab;omega)
theorem Hn(ax:jl c)(l:List α):hF c (asc c l):=(PW ax _ none (LY ax l) (fun y h=>by cases h)).1
theorem TE(l:List α)(x:α):x∈asc c l↔x∈l:=by
 constructor
 ·intro h;exact(x3 c l).mem_iff.1 (HZ _ _ _ h)
 ·intro h;rcases Kn (oq c l) none x ((x3 c l).mem_iff.2 h)with h|h
  ·exact h
  ·cases h
omit [DecidableEq α]in
theorem hF.ext(ax:jl c){l a1:List α}(h:hF c l)(cr:hF c a1)(hm:∀x,x∈l↔x∈a1):l=a1:=by
 have aQ:∀{l:List α},hF c l→l.Nodup:=fun{l} h=>h.imp fun{a b} h e=>by subst e;have:=ax.refl a;omega
 refine ML (le:=fun x y=>c x y≤0) (fun x y _ _ J U=>(ax.zero x y).1 (by have:=ax.neg x y;omega)) (h.imp fun h=>by omega) (cr.imp fun h=>by omega) ?_;exact(List.perm_ext_iff_of_nodup (aQ h) (aQ cr)).2 hm
omit [DecidableEq α]in
theorem hF.nodup(ax:jl c){l:List α}(h:hF c l):l.Nodup:=h.imp fun{a b} h e=>by subst e;have:=ax.refl a;omega
end
theorem Hs:∀a b:List dz,hk a b=true→hk b a=false
 |_,[],h=>by simp[hk]at h
 |[],_::_,_=>by simp[hk]
 |x::a,y::b,h=>by
  simp only[hk,mB,fH,cA,dL]at h;simp only[hk,Bool.or_eq_false_iff,hE,Bool.and_eq_false_iff];rcases h with h|⟨rfl,h⟩
  ·refine⟨fun U=>?_,.inl ?_⟩
   ·rw[UInt8.lt_iff_toNat_lt]at h U;omega
   ·simp;intro e;subst e;rw[UInt8.lt_iff_toNat_lt]at h;omega
  ·exact⟨fun U=>by rw[UInt8.lt_iff_toNat_lt]at U;omega,.inr (Hs a b h)⟩
theorem Nl:∀a b:List dz,a≠b→hk a b=false→hk b a=true
 |[],[],h,_=>absurd rfl h
 |x::a,[],_,_=>by simp[hk]
 |[],_::_,_,h=>by simp[hk]at h
 |x::a,y::b,cF,h=>by
  simp only[hk,Bool.or_eq_false_iff,hE,Bool.and_eq_false_iff]at h;simp only[hk,mB,fH,cA,dL];by_cases e:x=y
  ·subst e;right;refine⟨rfl,Nl a b (fun e=>cF (by rw[e])) ?_⟩;rcases h.2 with U|U
   ·simp at U
   ·exact U
  ·left;have J:=h.1;rw[UInt8.lt_iff_toNat_lt]at J⊢;have:x.toNat≠y.toNat:=fun h=>e (UInt8.toNat_inj.1 h);omega
theorem Nk:∀a b d:List dz,hk a b=true→hk b d=true→hk a d=true
 |_,[],_,h,_=>by simp[hk]at h
 |_,_::_,[],_,h=>by simp[hk]at h
 |[],_::_,_::_,_,_=>by simp[hk]
 |x::a,y::b,z::d,J,U=>by
  simp only[hk,mB,fH,cA,dL,UInt8.lt_iff_toNat_lt]at J U⊢;rcases J with J|⟨rfl,J⟩<;>rcases U with U|⟨rfl,U⟩
  ·left;omega
  ·left;exact J
  ·left;exact U
  ·exact .inr ⟨rfl,Nk a b d J U⟩
theorem j1:jl ev:=by
 refine⟨fun a b=>?_,fun a b d=>?_,fun a b=>?_⟩
 ·simp only[ev];repeat' split
  all_goals omega
 ·simp only[ev];repeat' split
  all_goals omega
 ·simp only[ev];repeat' split
  all_goals omega
theorem CA:jl kr:=by
 have aA:∀a b,kr b a= -kr a b:=fun a b=>by
  simp only[kr];by_cases e:a=b
  ·subst e;simp
  ·rw[if_neg e,if_neg (kP e)];cases h:hk a b with
   |true=>simp[Hs a b h]
   |false=>simp[Nl a b e h]
 refine⟨aA,fun a b d J U=>?_,fun a b=>?_⟩
 ·simp only[kr]at J U⊢;by_cases ak:a=b
  ·subst ak;exact U
  ·by_cases aB:b=d
   ·subst aB;exact J
   ·rw[if_neg ak]at J;rw[if_neg aB]at U;have g1:hk a b=true:=by cases h:hk a b<;>simp[h]at J⊢
    have g2:hk b d=true:=by cases h:hk b d<;>simp[h]at U⊢
    rw[Nk a b d g1 g2];split<;>simp
 ·simp only[kr];by_cases e:a=b
  ·simp[e]
  ·rw[if_neg e];simp[e];split<;>omega
theorem rA{a b:T}(h:a.kind≠b.kind):er a b=ev a.kind b.kind:=by cases a<;>cases b<;>simp at h<;>simp[er]
theorem FL:∀a b:T,er b a= -er a b
 | .pair a b,.pair c d=>by
  simp only[er];have J:=FL a c;have U:=FL b d;by_cases e:er a c=0
  ·rw[if_pos e,if_pos (by omega),U]
  ·rw[if_neg e,if_neg (by omega),J]
 | .nil,y=>by
  by_cases ad:T.nil.kind=y.kind
  ·cases y<;>simp at ad;simp[er,kr]
  ·rw[rA ad,rA (kP ad),j1.neg]
 | .var n,y=>by
  by_cases ad:(T.var n).kind=y.kind
  ·cases y<;>simp at ad;rename_i m;by_cases e:n=m
   ·subst e;simp[er,kr]
   ·simp[er,e,kP e,j1.neg n m]
  ·rw[rA ad,rA (kP ad),j1.neg]
 | .sym s,y=>by
  by_cases ad:(T.sym s).kind=y.kind
  ·cases y<;>simp at ad;rename_i m;simp[er,CA.neg s m]
  ·rw[rA ad,rA (kP ad),j1.neg]
 | .num n,y=>by
  by_cases ad:(T.num n).kind=y.kind
  ·cases y<;>simp at ad;rename_i m;by_cases e:n=m
   ·subst e;simp[er,kr]
   ·simp[er,e,kP e,j1.neg n m]
  ·rw[rA ad,rA (kP ad),j1.neg]
 | .pair a b,.nil| .pair a b,.var _| .pair a b,.sym _| .pair a b,.num _=>by simp[er,ev]
theorem FK{a b:T}(h:er a b≤0):a.kind≤b.kind:=by
 by_cases ad:a.kind=b.kind
 ·omega
 ·rw[rA ad]at h;simp only[ev]at h;repeat' split at h
  all_goals omega
theorem Uq(n m:Int):er (.var n) (.var m)=ev n m:=by
 simp only[er,T.kind,T.int,T.name,kr];by_cases e:n=m
 ·subst e;simp[ev]
 ·simp[e]
theorem Up(n m:Int):er (.num n) (.num m)=ev n m:=by
 simp only[er,T.kind,T.int,T.name,kr];by_cases e:n=m
 ·subst e;simp[ev]
 ·simp[e]
theorem air(n m:List dz):er (.sym n) (.sym m)=kr n m:=by simp[er]
theorem FM(a b d:T)(bF:a.kind≠4)(J:er a b≤0)(U:er b d≤0):er a d≤0:=by
 have aT:=FK J;have bz:=FK U;by_cases ad:a.kind=d.kind
 ·cases a<;>cases d<;>simp at ad bF;all_goals(cases b<;>simp at aT bz)
  ·simp[er,kr]
  ·rw[Uq]at J U⊢;exact j1.tr _ _ _ J U
  ·rw[air]at J U⊢;exact CA.tr _ _ _ J U
  ·rw[Up]at J U⊢;exact j1.tr _ _ _ J U
 ·rw[rA ad];simp only[ev];repeat' split
  all_goals omega
theorem ais:∀a b d:T,er a b≤0→er b d≤0→er a d≤0:=by
 intro a;induction a with
 |pair bE a2 EW EX=>
  intro b d J U;have aT:=FK J;have bz:=FK U;cases b<;>simp at aT;all_goals(cases d<;>simp at bz)
  rename_i cc b4 d1 d2;simp only[er]at J U⊢;by_cases ak:er bE cc=0
  ·obtain rfl:=(qz bE cc).1 ak;rw[if_pos ak]at J;by_cases aB:er bE d1=0
   ·rw[if_pos aB]at U⊢;exact EX b4 d2 J U
   ·rw[if_neg aB]at U⊢;exact U
  ·rw[if_neg ak]at J;by_cases aB:er cc d1=0
   ·obtain rfl:=(qz cc d1).1 aB;rw[if_neg ak];exact J
   ·rw[if_neg aB]at U;have ao:=EW cc d1 J U;by_cases bj:er bE d1=0
    ·obtain rfl:=(qz bE d1).1 bj;have:=FL bE cc;omega
    ·rw[if_neg bj];exact ao
 |nil=>exact fun b d=>FM _ b d (by simp)
 |var n=>exact fun b d=>FM _ b d (by simp)
 |sym n=>exact fun b d=>FM _ b d (by simp)
 |num n=>exact fun b d=>FM _ b d (by simp)
theorem KV:jl er:=⟨FL,ais,qz⟩
end Go.Pv
namespace Go.Pv
open Go
section
variable {α:Type} {c:α→α→Int}
def jL(c:α→α→Int):List α→List α→Int
 |[],[]=>0
 |[],_::_=> -1
 |_::_,[]=>1
 |x::xs,y::ys=>if c x y=0 then jL c xs ys else c x y
theorem To(h:jl c):∀a b:List α,jL c b a= -jL c a b
 |[],[]=>rfl
 |[],_::_=>rfl
 |_::_,[]=>rfl
 |x::xs,y::ys=>by
  simp only[jL];have J:=h.neg x y;by_cases e:c x y=0
  ·rw[if_pos e,if_pos (by omega),To h xs ys]
  ·rw[if_neg e,if_neg (by omega),J]
theorem Tq(h:jl c):∀a b:List α,jL c a b=0↔a=b
 |[],[]=>by simp[jL]
 |[],_::_=>by simp[jL]
 |_::_,[]=>by simp[jL]
 |x::xs,y::ys=>by
  simp only[jL,p0];by_cases e:c x y=0
  ·rw[if_pos e,Tq h xs ys];simp[(h.zero x y).1 e]
  ·rw[if_neg e];exact⟨fun cr=>absurd cr e,fun cr=>absurd ((h.zero x y).2 cr.1) e⟩
theorem Tp(h:jl c):∀a b d:List α,jL c a b≤0→jL c b d≤0→jL c a d≤0
 |[],_,[],_,_=>by simp[jL]
 |[],_,_::_,_,_=>by simp[jL]
 |_::_,[],_,J,_=>by simp[jL]at J
 |_::_,_::_,[],_,U=>by simp[jL]at U
 |x::xs,y::ys,z::c1,J,U=>by
  simp only[jL]at J U⊢;by_cases ak:c x y=0
  ·have:=(h.zero x y).1 ak;subst this;rw[if_pos ak]at J;by_cases aB:c x z=0
   ·rw[if_pos aB]at U⊢;exact Tp h xs ys c1 J U
   ·rw[if_neg aB]at U⊢;exact U
  ·rw[if_neg ak]at J;have bC:c x y<0:=by omega
   by_cases aB:c y z=0
   ·have:=(h.zero y z).1 aB;subst this;rw[if_neg ak];omega
   ·rw[if_neg aB]at U;have:=h.ltr bC U;rw[if_neg (by omega)];omega
theorem afE(h:jl c):jl (jL c):=⟨To h,Tp h,Tq h⟩
end
def xK(x y:ar):Int:=if ev x.v y.v=0 then er x.t y.t else ev x.v y.v
theorem aip:jl xK:=by
 refine⟨fun x y=>?_,fun x y z J U=>?_,fun x y=>?_⟩
 ·unfold xK;have:=j1.neg x.v y.v;have:=KV.neg x.t y.t;by_cases e:ev x.v y.v=0
  ·rw[if_pos e,if_pos (by omega)];omega
  ·rw[if_neg e,if_neg (by omega)];omega
 ·unfold xK at J U⊢;by_cases ak:ev x.v y.v=0
  ·rw[if_pos ak]at J;rw[(j1.zero _ _).1 ak];by_cases aB:ev y.v z.v=0
   ·rw[if_pos aB]at U⊢;exact KV.tr _ _ _ J U
   ·rw[if_neg aB]at U⊢;exact U
  ·rw[if_neg ak]at J;have bC:ev x.v y.v<0:=by omega
   by_cases aB:ev y.v z.v=0
   ·rw[←(j1.zero _ _).1 aB,if_neg ak];exact J
   ·rw[if_neg aB]at U;have:=j1.ltr bC U;rw[if_neg (by omega)];omega
 ·unfold xK;by_cases e:ev x.v y.v=0
  ·rw[if_pos e,KV.zero];have:=(j1.zero _ _).1 e;cases x;cases y;simp_all
  ·rw[if_neg e];exact⟨fun h=>absurd h e,fun h=>by rw[h]at e;exact absurd (j1.refl _) e⟩
def eu:List ar→List ar→Int:=jL xK
theorem ly:jl eu:=afE aip
end Go.Pv
namespace Go.Pv
open Go
def T.ap(aO:Int→T):T→T
 | .var n=>aO n
 | .pair a b=>.pair (a.ap aO) (b.ap aO)
 |t=>t
theorem AM(f g:Int→T)(t:T):(t.ap f).ap g=t.ap fun v=>(f v).ap g:=by
 induction t with
 |pair a b dR dS=>simp[T.ap,dR,dS]
 |_=>simp[T.ap]
theorem tc{f g:Int→T}{t:T}(h:∀v,t.occ v=true→f v=g v):t.ap f=t.ap g:=by
 induction t with
 |var n=>exact h n (by simp[T.occ])
 |pair a b dR dS=>simp only[T.ap];rw[dR fun v aJ=>h v (by simp[T.occ,aJ]),dS fun v aJ=>h v (by simp[T.occ,aJ])]
 |_=>rfl
theorem XL(t:T):t.ap .var=t:=by induction t<;>simp_all[T.ap]
theorem M8{f:Int→T}{t:T}(h:∀v,t.occ v=true→f v= .var v):t.ap f=t:=(tc h).trans (XL t)
theorem V2(f:Int→aY T)(t:T):t.sub f=t.ap fun v=>(f v).getD (.var v):=by
 induction t with
 |var n=>simp only[T.sub,T.ap];cases f n<;>rfl
 |pair a b dR dS=>simp[T.sub,T.ap,dR,dS]
 |_=>rfl
theorem XK(aO:Int→T)(t:T):t.size≤(t.ap aO).size:=by
 induction t with
 |var n=>exact T.size_pos _
 |pair a b dR dS=>simp only[T.ap,T.size];omega
 |_=>exact eR _
theorem zG(aO:Int→T){v:Int}{t:T}(h:t.occ v=true):(aO v).size≤(t.ap aO).size∧(t.kind≠1→(aO v).size<(t.ap aO).size):=by
 induction t with
 |var n=>simp[T.occ]at h;subst h;simp[T.ap,T.kind]
 |pair a b dR dS=>
  simp only[T.occ,mB]at h;simp only[T.ap,T.size];rcases h with h|h
  ·have:=(dR h).1;exact⟨by omega,fun _=>by omega⟩
  ·have:=(dS h).1;exact⟨by omega,fun _=>by omega⟩
 |_=>simp[T.occ]at h
theorem Cs{aO:Int→T}{v:Int}{t:T}:(t.ap aO).occ v=true↔∃w,t.occ w=true∧(aO w).occ v=true:=by
 induction t with
 |var n=>simp[T.ap,T.occ]
 |pair a b dR dS=>
  simp only[T.ap,T.occ,mB,dR,dS];constructor
  ·rintro(⟨w,J,U⟩|⟨w,J,U⟩)
   ·exact⟨w,.inl J,U⟩
   ·exact⟨w,.inr J,U⟩
  ·rintro⟨w,J|J,U⟩
   ·exact .inl ⟨w,J,U⟩
   ·exact .inr ⟨w,J,U⟩
 |_=>simp[T.ap,T.occ]
def cB(s:List ar)(v:Int):T:=(dh s v).getD (.var v)
abbrev ir(s:List ar):Prop:=s.Pairwise fun x y=>x.v<y.v
def gH(s:List ar)(aO:Int→T):Prop:= ∀b∈s,aO b.v=b.t.ap aO
structure fC (s:List ar):Prop where
 asc:ir s
 free:∀b∈s,∀w,b.t.occ w=true→dh s w=none
 ori:∀b∈s,∀w,b.t= .var w→w<b.v
theorem te(b:ar)(s:List ar)(v:Int):dh (b::s) v=if b.v=v then some b.t else dh s v:=by
 unfold dh;by_cases h:b.v=v
 ·simp[h]
 ·have:(b.v==v)=false:=by simp[h]
  simp[this,h,List.find?_cons]
theorem jT{v:Int}{t:T}:∀{s:List ar},dh s v=some t→(⟨v,t⟩:ar)∈s
 |[],h=>by simp[dh]at h
 |b::s,h=>by
  rw[te]at h;split at h
  ·rename_i e;cases h;subst e;simp
  ·exact pf _ (jT h)
theorem uI{v:Int}:∀{s:List ar},dh s v=none↔∀b∈s,b.v≠v
 |[]=>by simp[dh]
 |b::s=>by
  rw[te];by_cases h:b.v=v
  ·simp[h]
  ·simp[h,uI (s:=s)]
theorem uH{b:ar}:∀{s:List ar},ir s→b∈s→dh s b.v=some b.t
 |[],_,h=>by simp at h
 |c::s,bF,h=>by
  rw[te];have mM:=mC.1 bF;rcases fU.1 h with rfl|h
  ·simp
  ·have:=mM.1 b h;rw[if_neg (by omega)];exact uH mM.2 h
theorem Na:∀{s ai:List ar},ir s→ir ai→(∀v,dh s v=dh ai v)→s=ai
 |[],[],_,_,_=>rfl
 |[],c::ai,_,_,h=>by have:=h c.v;rw[te]at this;simp[dh]at this
 |c::s,[],_,_,h=>by have:=h c.v;rw[te]at this;simp[dh]at this
 |b::s,c::ai,bF,ae,h=>by
  have fR:=mC.1 ae;have mM:=mC.1 bF;have J:(⟨b.v,b.t⟩:ar)∈c::ai:=jT (by rw[←h b.v,te];simp);have U:(⟨c.v,c.t⟩:ar)∈b::s:=jT (by rw[h c.v,te];simp);have Rj:b=c:=by
   rcases fU.1 J with e|e
   ·exact e
   ·rcases fU.1 U with aB|aB
    ·exact aB.symm
    ·have a6:=fR.1 _ e;have bu:=mM.1 _ aB;simp only at a6 bu;omega
  subst Rj;rw[Na mM.2 fR.2 fun v=>?_];have:=h v;rw[te,te]at this;by_cases e:b.v=v
  ·have kN:dh s v=none:=uI.2 fun x ab=>by have:=mM.1 x ab;omega
   have z2:dh ai v=none:=uI.2 fun x ab=>by have:=fR.1 x ab;omega
   rw[kN,z2]
  ·simpa[e]using this
theorem akp{s:List ar}(bF:ir s){aO:Int→T}:gH s aO↔∀v,aO v=(cB s v).ap aO:=by
 constructor
 ·intro h v;unfold cB;cases e:dh s v with
  |none=>rfl
  |some t=>exact h _ (jT e)
 ·intro h b ae;have:=h b.v;rw[cB,uH bF ae]at this;exact this
theorem LW{s:List ar}{aO:Int→T}(h:gH s aO)(t:T):t.ap aO=(t.ap (cB s)).ap aO:=by
 rw[AM];refine tc fun v _=>?_;unfold cB;cases e:dh s v with
 |none=>rfl
 |some t=>exact h _ (jT e)
theorem aj6{s:List ar}(ag:fC s){t:T}(h:∀w,t.occ w=true→dh s w=none):t.ap (cB s)=t:=M8 fun v aJ=>by simp[cB,h v aJ]
theorem x2{s:List ar}(ag:fC s):gH s (cB s):=fun b ae=>by rw[aj6 ag (ag.free b ae),cB,uH ag.asc ae];rfl
theorem Kw{s ai:List ar}(ag:fC s)(gi:fC ai)(h:∀aO,gH ai aO→gH s aO){v:Int}(aJ:dh ai v=none):dh s v=none:=by
 cases e:dh s v with
 |none=>rfl
 |some t=>
  have J:=h _ (x2 gi) _ (jT e);simp only[cB,aJ,kQ]at J;cases t with
  |var w=>
   have U:w<v:=ag.ori _ (jT e) w rfl;simp only[T.ap,cB]at J;cases bj:dh ai w with
   |none=>rw[bj]at J;simp at J;omega
   |some u=>rw[bj]at J;simp only[ky]at J;subst J;have:=gi.ori _ (jT bj) v rfl;simp only at this;omega
  |_=>simp[T.ap]at J
theorem agi{s ai:List ar}(gi:fC ai)(h:∀aO,gH ai aO→gH s aO){v:Int}:(cB s v).size≤(cB ai v).size:=by
 have J:=h _ (x2 gi);unfold cB;cases e:dh s v with
 |none=>exact T.size_pos _
 |some t=>have:=J _ (jT e);show t.size≤(cB ai v).size;simp only at this;rw[this];exact XK _ _
theorem aks{s ai:List ar}(ag:fC s)(gi:fC ai)(h:∀aO,gH s aO↔gH ai aO):s=ai:=by
 refine Na ag.asc gi.asc fun v=>?_;have d1:∀w,dh s w=none↔dh ai w=none:=fun w=>⟨Kw gi ag (fun aO=>(h aO).1),Kw ag gi fun aO=>(h aO).2⟩;cases e:dh s v with
 |none=>exact((d1 v).1 e).symm
 |some t=>
  cases fJ:dh ai v with
  |none=>rw[(d1 v).2 fJ]at e;cases e
  |some dJ=>have J:=(h _).2 (x2 gi) _ (jT e);simp only[cB,fJ,ky]at J;rw[J];exact e5 some (M8 fun w hw=>by have:=(d1 w).1 (ag.free _ (jT e) w hw);simp[cB,this]).symm
def hn(s:List ar):Prop:=s.length≤400∧∀b∈s,b.t.size≤5000
theorem XU{s:List ar}(h:ir s):(s.map (·.v)).Nodup:=by rw[List.nodup_iff_pairwise_ne,List.pairwise_map];exact h.imp fun h=>by omega
theorem QA{s ai:List ar}(ag:fC s)(gi:fC ai)(h:∀aO,gH ai aO→gH s aO)(aI:hn ai):hn s:=by
 have aQ:∀x∈s.map (·.v),x∈ai.map (·.v):=by
  intro x ab;obtain⟨b,ae,rfl⟩:=h8.1 ab;cases e:dh ai b.v with
  |none=>have:=Kw ag gi h e;rw[uH ag.asc ae]at this;cases this
  |some t=>exact h8.2 ⟨_,jT e,rfl⟩
 have au:=MK (XU ag.asc) aQ;simp only[List.length_map]at au;refine⟨j4 au aI.1,fun b ae=>?_⟩;have J:=agi (s:=s) gi h (v:=b.v);rw[cB,uH ag.asc ae]at J;obtain⟨c,ax,e⟩:=h8.1 (aQ b.v (h8.2 ⟨b,ae,rfl⟩));have U:=aI.2 c ax;rw[cB,←e,uH gi.asc ax]at J;exact j4 J U
def jo(E:List (T×T))(aO:Int→T):Prop:= ∀e∈E,e.1.ap aO=e.2.ap aO
theorem C2(aO:Int→T):jo [] aO:=fun _ h=>by simp at h
theorem qB{e:T×T}{E:List (T×T)}{aO:Int→T}:jo (e::E) aO↔e.1.ap aO=e.2.ap aO∧jo E aO:=by simp[jo]
theorem C1{E wg:List (T×T)}{aO:Int→T}:jo (E++wg) aO↔jo E aO∧jo wg aO:=by simp only[jo,kx];exact⟨fun h=>⟨fun e he=>h e (.inl he),fun e he=>h e (.inr he)⟩,fun h e he=>he.elim (h.1 e) (h.2 e)⟩
def ix(s:List ar)(E:List (T×T)):aY (List ar)→Prop
 |some ai=>(fC ai∧hn ai)∧∀aO,gH ai aO↔gH s aO∧jo E aO
 |none=> ∀ai,fC ai→(∀aO,gH ai aO→gH s aO∧jo E aO)→¬hn ai
theorem XB{s:List ar}{E:List (T×T)}:∀{o o':aY (List ar)},ix s E o→ix s E o'→o=o'
 |none,none,_,_=>rfl
 |some s1,none,h,cr=>absurd h.1.2 (cr s1 h.1.1 fun aO=>(h.2 aO).1)
 |none,some s1,cr,h=>absurd h.1.2 (cr s1 h.1.1 fun aO=>(h.2 aO).1)
 |some s1,some s2,h,cr=>by rw[aks h.1.1 cr.1.1 fun aO=>(h.2 aO).trans (cr.2 aO).symm]
theorem AK{s s2:List ar}{E MN:List (T×T)}(h:∀aO,(gH s aO∧jo E aO)↔(gH s2 aO∧jo MN aO)):∀{o:aY (List ar)},ix s E o→ix s2 MN o
 |none,aL=>fun ai J U=>aL ai J fun aO hg=>(h aO).2 (U aO hg)
 |some s1,aL=>⟨aL.1,fun aO=>(aL.2 aO).trans (h aO)⟩
theorem MX{s s1:List ar}{E wg:List (T×T)}(h:ix s E (some s1)):∀{o:aY (List ar)},ix s1 wg o→ix s (E++wg) o
 |none,aL=>fun ai J U=>aL ai J fun aO hg=>⟨(h.2 aO).2 ⟨(U aO hg).1,(C1.1 (U aO hg).2).1⟩,(C1.1 (U aO hg).2).2⟩
 |some s2,aL=>⟨aL.1,fun aO=>by rw[aL.2 aO,h.2 aO,C1,and_assoc]⟩
theorem He{s:List ar}{E:List (T×T)}(wg:List (T×T))(h:ix s E none):ix s (E++wg) none:=fun ai J U=>h ai J fun aO hg=>⟨(U aO hg).1,(C1.1 (U aO hg).2).1⟩
theorem Dy{s:List ar}{E:List (T×T)}(h:∀aO,gH s aO→¬jo E aO):ix s E none:=fun ai J U=>absurd (U _ (x2 J)).2 (h _ (U _ (x2 J)).1)
theorem Hf{s:List ar}(ag:fC s)(aI:hn s):ix s [] (some s):=⟨⟨ag,aI⟩,fun aO=>⟨fun h=>⟨h,C2 aO⟩,fun h=>h.1⟩⟩
def one(v:Int)(x:T)(w:Int):T:=if w=v then x else .var w
def oc(b:ar):List ar→List ar
 |[]=>[b]
 |c::s=>if b.v<c.v then b::c::s else c::oc b s
def l6(s:List ar)(v:Int)(x:T):List ar:=oc ⟨v,x⟩ (s.map fun b=>⟨b.v,b.t.ap (one v x)⟩)
theorem Ko{b x:ar}:∀{s:List ar},x∈oc b s↔x=b∨x∈s
 |[]=>by simp[oc]
 |c::s=>by
  simp only[oc];split
  ·simp
  ·simp only[fU,Ko (s:=s)];constructor
   ·rintro(h|h|h)
    ·exact .inr (.inl h)
    ·exact .inl h
    ·exact .inr (.inr h)
   ·rintro(h|h|h)
    ·exact .inr (.inl h)
    ·exact .inl h
    ·exact .inr (.inr h)
theorem Tn{b:ar}:∀{s:List ar},(oc b s).length=s.length+1
 |[]=>rfl
 |c::s=>by simp only[oc];split<;>simp[Tn]
theorem Nb{b:ar}:∀{s:List ar},ir s→(∀c∈s,c.v≠b.v)→ir (oc b s)
 |[],_,_=>by simp[oc]
 |c::s,bF,aA=>by
  have mM:=mC.1 bF;simp only[oc];split
  ·rename_i bC;refine mC.2 ⟨fun x ab=>?_,bF⟩;rcases fU.1 ab with rfl|ab
   ·exact bC
   ·have:=mM.1 x ab;omega
  ·rename_i tA;refine mC.2 ⟨fun x ab=>?_,Nb mM.2 fun c ax=>aA c (by simp[ax])⟩;rcases Ko.1 ab with rfl|ab
   ·have:=aA c (by simp);omega
   ·exact mM.1 x ab
theorem pO{s:List ar}{v:Int}{x:T}{b:ar}:b∈l6 s v x↔b=⟨v,x⟩∨ ∃c∈s,b=⟨c.v,c.t.ap (one v x)⟩:=by unfold l6;rw[Ko,h8];refine or_congr Iff.rfl ⟨fun⟨c,J,U⟩=>⟨c,J,U.symm⟩,fun⟨c,J,U⟩=>⟨c,J,U.symm⟩⟩
theorem Ul{v:Int}{x:T}{aO:Int→T}(h:aO v=x.ap aO)(t:T):(t.ap (one v x)).ap aO=t.ap aO:=by
 rw[AM];refine tc fun w _=>?_;unfold one;split
 ·rename_i e;subst e;exact h.symm
 ·rfl
theorem DB{s:List ar}{v w:Int}{x:T}:dh (l6 s v x) w=none↔w≠v∧dh s w=none:=by
 rw[uI,uI];constructor
 ·intro h;exact⟨fun e=>h ⟨v,x⟩ (pO.2 (.inl rfl)) e.symm,fun b ae=>h ⟨b.v,b.t.ap (one v x)⟩ (pO.2 (.inr ⟨b,ae,rfl⟩))⟩
 ·rintro⟨J,U⟩ b ae;rcases pO.1 ae with rfl|⟨c,ax,rfl⟩
  ·exact fun e=>J e.symm
  ·exact U c ax
theorem LU{s:List ar}(ag:fC s){t:T}{w:Int}(h:(t.ap (cB s)).occ w=true):dh s w=none:=by
 obtain⟨u,_,U⟩:=Cs.1 h;unfold cB at U;cases e:dh s u with
 |none=>rw[e]at U;simp[T.occ]at U;subst U;exact e
 |some t=>rw[e]at U;exact ag.free _ (jT e) w U
theorem akr{s:List ar}(ag:fC s){v:Int}{t:T}(aJ:dh s v=none)(aw:(t.ap (cB s)).occ v=false)(sk:∀w,t.ap (cB s)= .var w→w<v):fC (l6 s v (t.ap (cB s))):=by
 have ab:∀w,(t.ap (cB s)).occ w=true→dh (l6 s v (t.ap (cB s))) w=none:=fun w hw=>DB.2 ⟨fun e=>(by subst e;rw[aw]at hw;cases hw),LU ag hw⟩;refine⟨Nb ?_ ?_,fun b ae w hw=>?_,fun b ae w hw=>?_⟩
 ·rw[ir,List.pairwise_map];exact ag.asc
 ·intro c ax;obtain⟨b,ae,rfl⟩:=h8.1 ax;exact uI.1 aJ b ae
 ·rcases pO.1 ae with rfl|⟨c,ax,rfl⟩
  ·exact ab w hw
  ·obtain⟨u,J,U⟩:=Cs.1 hw;unfold one at U;split at U
   ·exact ab w U
   ·rename_i cF;simp[T.occ]at U;subst U;exact DB.2 ⟨cF,ag.free c ax _ J⟩
 ·rcases pO.1 ae with rfl|⟨c,ax,rfl⟩
  ·exact sk w hw
  ·simp only at hw⊢;cases e:c.t with
   |var u=>
    have:=ag.ori c ax u e;rw[e]at hw;simp only[T.ap,one]at hw;split at hw
    ·rename_i aB;subst aB;have:=sk w hw;omega
    ·cases hw;exact this
   |_=>rw[e]at hw;simp[T.ap]at hw
theorem VR{s:List ar}{v:Int}{t:T}(aO:Int→T):gH (l6 s v (t.ap (cB s))) aO↔gH s aO∧jo [(.var v,t)] aO:=by
 have ak:jo [(.var v,t)] aO↔aO v=t.ap aO:=by simp[jo,T.ap]
 rw[ak];constructor
 ·intro h;have bA:aO v=(t.ap (cB s)).ap aO:=h _ (pO.2 (.inl rfl));have J:gH s aO:=fun b ae=>by have:=h _ (pO.2 (.inr ⟨b,ae,rfl⟩));simp only at this;rw[Ul bA]at this;exact this
  exact⟨J,by rw[LW J t];exact bA⟩
 ·rintro⟨J,U⟩ b ae;have bA:aO v=(t.ap (cB s)).ap aO:=by rw[←LW J t];exact U
  rcases pO.1 ae with rfl|⟨c,ax,rfl⟩
  ·exact bA
  ·simp only;rw[Ul bA];exact J c ax
open Classical in
theorem Xy{s:List ar}(ag:fC s){v:Int}{t:T}(aJ:dh s v=none)(aw:(t.ap (cB s)).occ v=false)(sk:∀w,t.ap (cB s)= .var w→w<v):ix s [(.var v,t)] (if hn (l6 s v (t.ap (cB s)))then some (l6 s v (t.ap (cB s)))else none):=by
 have J:=akr ag aJ aw sk;split
 ·rename_i aI;exact⟨⟨J,aI⟩,VR⟩
 ·rename_i aI;exact fun ai U ao a8=>aI (QA J U (fun aO hg=>(VR aO).2 (ao aO hg)) a8)
def ha(s:List ar):T→T
 | .var n=>cB s n
 |t=>t
def nn(s:List ar)(v:Int)(t:T):aY (List ar):=if(t.ap (cB s)).size≤5000∧(t.ap (cB s)).occ v=false∧s.length<400∧∀b∈s,(b.t.ap (one v (t.ap (cB s)))).size≤5000 then some (l6 s v (t.ap (cB s)))else none
def jQ(rec:List ar→T→T→aY (aY (List ar)))(s:List ar):T→T→aY (aY (List ar))
 | .var i,.var j=>some (if i<j then nn s j (.var i)else if i=j then some s else nn s i (.var j))
 | .var i,y=>some (nn s i y)
 |x,.var j=>some (nn s j x)
 | .pair bE a2,.pair cc b4=>match rec s bE cc with
  |none=>none
  |some none=>some none
  |some (some s1)=>rec s1 a2 b4
 |x,y=>some (if x=y then some s else none)
def kt:Nat→List ar→T→T→aY (aY (List ar))
 |0,_,_,_=>none
 |n+1,s,a,b=>jQ (kt n) s (ha s a) (ha s b)
theorem akT{rec Lu:List ar→T→T→aY (aY (List ar))}(h:∀s a b o,rec s a b=some o→Lu s a b=some o){s:List ar}{x y:T}{o:aY (List ar)}(he:jQ rec s x y=some o):jQ Lu s x y=some o:=by
 cases x<;>cases y<;>simp only[jQ]at he⊢ <;>try exact he
 rename_i bE a2 cc b4;cases e:rec s bE cc with
 |none=>rw[e]at he;cases he
 |some gK=>
  rw[e]at he;rw[h _ _ _ _ e];cases gK with
  |none=>exact he
  |some s1=>exact h _ _ _ _ he
theorem C8:∀{n m:Nat} {s:List ar} {a b:T} {o:aY (List ar)},n≤m→kt n s a b=some o→kt m s a b=some o
 |0,_,_,_,_,_,_,h=>by simp[kt]at h
 |n+1,0,_,_,_,_,hm,_=>by omega
 |n+1,m+1,s,a,b,o,hm,h=>by simp only[kt]at h⊢;exact akT (fun s a b o h=>C8 (by omega) h) h
theorem Iz{s:List ar}{v:Int}{x:T}:hn (l6 s v x)↔(x.size≤5000∧s.length<400∧∀b∈s,(b.t.ap (one v x)).size≤5000):=by
 have au:(l6 s v x).length=s.length+1:=by simp[l6,Tn]
 unfold hn;rw[au];constructor
 ·rintro⟨J,U⟩;exact⟨U _ (pO.2 (.inl rfl)),by omega,fun b ae=>U _ (pO.2 (.inr ⟨b,ae,rfl⟩))⟩
 ·rintro⟨J,U,ao⟩;refine⟨by omega,fun b ae=>?_⟩;rcases pO.1 ae with rfl|⟨c,ax,rfl⟩
  ·exact J
  ·exact ao c ax
theorem Xz{s:List ar}(ag:fC s){v:Int}{t:T}(aJ:dh s v=none)(cF:t.ap (cB s)≠ .var v)(sk:∀w,t.ap (cB s)= .var w→w<v):ix s [(.var v,t)] (nn s v t):=by
 unfold nn;cases aw:(t.ap (cB s)).occ v with
 |true=>
  rw[if_neg (by simp)];refine Dy fun aO J U=>?_;have ao:=(qB.1 U).1;simp only[T.ap]at ao;rw[LW J t]at ao;have ad:(t.ap (cB s)).kind≠1:=by
   intro ad;cases e:t.ap (cB s)with
   |var w=>rw[e]at aw;simp[T.occ]at aw;subst aw;exact cF e
   |_=>rw[e]at ad;simp[T.kind]at ad
  have:=(zG aO aw).2 ad;rw[←ao]at this;omega
 |false=>
  have J:=Xy ag aJ aw sk;by_cases aI:hn (l6 s v (t.ap (cB s)))
  ·rw[if_pos aI]at J;rw[if_pos ⟨(Iz.1 aI).1,rfl,(Iz.1 aI).2⟩];exact J
  ·rw[if_neg aI]at J;rw[if_neg fun h=>aI (Iz.2 ⟨h.1,h.2.2⟩)];exact J
theorem W0{s:List ar}(ag:fC s){t:T}{i:Int}(h:ha s t= .var i):dh s i=none:=by
 cases t with
 |var n=>
  simp only[ha,cB]at h;cases e:dh s n with
  |none=>rw[e]at h;simp at h;subst h;exact e
  |some u=>rw[e]at h;simp at h;subst h;exact ag.free _ (jT e) i (by simp[T.occ])
 |_=>simp[ha]at h
theorem MA{s:List ar}{aO:Int→T}(h:gH s aO)(t:T):(ha s t).ap aO=t.ap aO:=by
 cases t with
 |var n=>
  simp only[ha,T.ap,cB];cases e:dh s n with
  |none=>rfl
  |some u=>exact(h _ (jT e)).symm
 |_=>rfl
theorem W2{s:List ar}(ag:fC s)(t:T):(ha s t).ap (cB s)=t.ap (cB s):=MA (x2 ag) t
def pF(V:List Int)(t:T):Prop:= ∀w,t.occ w=true→w∈V
def xj(V:List Int)(s:List ar):Prop:= ∀b∈s,b.v∈V∧pF V b.t
def yy(V:List Int)(s:List ar):Nat:=(V.filter fun v=>(dh s v).isNone).length
theorem Qx{α:Type}{p q:α→Bool}{v:α}:∀{V:List α},(∀x∈V,q x=true→p x=true)→v∈V→p v=true→q v=false→(V.filter q).length<(V.filter p).length
 |[],_,h,_,_=>by simp at h
 |x::V,h,aJ,bJ,bo=>by
  have hle:∀W:List α,(∀x∈W,q x=true→p x=true)→(W.filter q).length≤(W.filter p).length:=by
   intro W;induction W with
   |nil=>intro _;simp
   |cons y W bT=>intro Bm;have:=bT fun x ab=>Bm x (by simp[ab]);have aG:=Bm y (by simp);simp only[List.filter_cons];cases e:q y<;>cases aB:p y<;>simp_all<;>omega
  simp only[List.filter_cons];rcases fU.1 aJ with rfl|aJ
  ·have:=hle V fun x ab=>h x (by simp[ab]);simp[bJ,bo];omega
  ·have:=Qx (fun x ab=>h x (pf _ ab)) aJ bJ bo;have ab:=h x (by simp);cases e:q x<;>cases aB:p x<;>simp_all<;>omega
theorem YT{V:List Int}{s:List ar}{v:Int}{x:T}(aJ:v∈V)(aA:dh s v=none):yy V (l6 s v x)<yy V s:=by
 unfold yy;refine Qx (v:=v) (fun w _ h=>?_) aJ (by simp[aA]) ?_
 ·rw[Option.isNone_iff_eq_none,DB]at h;simp[h.2]
 ·cases e:dh (l6 s v x) v with
  |none=>exact absurd rfl (DB.1 e).1
  |some _=>rfl
theorem Sq{V:List Int}{s:List ar}(h:xj V s){t:T}(aN:pF V t):pF V (t.ap (cB s)):=fun w hw=>by
 obtain⟨u,J,U⟩:=Cs.1 hw;unfold cB at U;cases e:dh s u with
 |none=>rw[e]at U;simp[T.occ]at U;subst U;exact aN _ J
 |some x=>rw[e]at U;exact(h _ (jT e)).2 w U
theorem aeT{V:List Int}{s:List ar}(h:xj V s){v:Int}{x:T}(aJ:v∈V)(ab:pF V x):xj V (l6 s v x):=fun b ae=>by
 rcases pO.1 ae with rfl|⟨c,ax,rfl⟩
 ·exact⟨aJ,ab⟩
 ·refine⟨(h c ax).1,fun w hw=>?_⟩;obtain⟨u,J,U⟩:=Cs.1 hw;unfold one at U;split at U
  ·exact ab w U
  ·simp[T.occ]at U;subst U;exact(h c ax).2 _ J
theorem Sr{V:List Int}{s:List ar}(h:xj V s){t:T}(aN:pF V t):pF V (ha s t):=by
 cases t with
 |var n=>have:=Sq h aN;simpa[ha,T.ap]using this
 |_=>exact aN
def AJ(V:List Int)(s:List ar)(a b:T)(o:aY (List ar)):Prop:=ix s [(a,b)] o∧∀ai,o=some ai→xj V ai∧(ai=s∨yy V ai<yy V s)
theorem C9{V:List Int}{s:List ar}(ag:fC s)(jW:xj V s){v:Int}{t a b:T}(aJ:v∈V)(aN:pF V t)(aA:dh s v=none)(cF:t.ap (cB s)≠ .var v)(sk:∀w,t.ap (cB s)= .var w→w<v)(ax:∀aO,gH s aO→(aO v=t.ap aO↔a.ap aO=b.ap aO)):AJ V s a b (nn s v t):=by
 refine⟨AK (fun aO=>?_) (Xz ag aA cF sk),fun ai h=>?_⟩
 ·refine and_congr_right fun h=>?_;rw[qB,qB];simp only[T.ap,ax aO h]
 ·unfold nn at h;split at h
  ·cases h;exact⟨aeT jW aJ (Sq jW aN),.inr (YT aJ aA)⟩
  ·cases h
theorem Ad{s:List ar}{i:Int}(h:dh s i=none):cB s i= .var i:=by simp[cB,h]
theorem Wl(V:List Int)(k:Nat):∀(m:Nat) (s:List ar) (a b:T),fC s→hn s→xj V s→pF V a→pF V b→yy V s=k→(a.ap (cB s)).size+(b.ap (cB s)).size=m→
  ∃n o,kt n s a b=some o∧AJ V s a b o:=by
 induction k using Nat.strongRecOn with
 |ind k JL=>
 intro m;induction m using Nat.strongRecOn with
 |ind m zl=>
 intro s a b ag aI jW bF ae ad hm;have ab:=Sr jW bF;have aG:=Sr jW ae;have L5:=W2 ag a;have L6:=W2 ag b;have td:=fun aO (h:gH s aO)=>MA h a;have nl:=fun aO (h:gH s aO)=>MA h b;have qj:=fun i=>W0 ag (t:=a) (i:=i);have ID:=fun i=>W0 ag (t:=b) (i:=i);have key:∀(rec:List ar→T→T→aY (aY (List ar))) (o:aY (List ar)),jQ rec s (ha s a) (ha s b)=some o→(∀bE a2 cc b4,ha s a= .pair bE a2→ha s b= .pair cc b4→AJ V s a b o)→AJ V s a b o:=by
  intro rec o he bJ;cases ex:ha s a with
  |var i=>
   have Ec:=qj i ex;have qb:=fun aO h=>(td aO h).symm.trans (by rw[ex]);cases hS:ha s b with
   |var j=>
    have wK:=ID j hS;have oK:=fun aO h=>(nl aO h).symm.trans (by rw[hS]);rw[ex,hS]at he;simp only[jQ]at he;have hi:i∈V:=by rw[ex]at ab;exact ab i (by simp[T.occ])
    have af:j∈V:=by rw[hS]at aG;exact aG j (by simp[T.occ])
    rcases Int.lt_trichotomy i j with h|h|h
    ·rw[if_pos h]at he;cases he;refine C9 ag jW af (by rw[ex]at ab;exact ab) wK (by simp[T.ap,Ad Ec];omega) (fun w hw=>by simp[T.ap,Ad Ec]at hw;omega) fun aO hg=>?_;rw[qb aO hg,oK aO hg];simp only[T.ap];exact⟨Eq.symm,Eq.symm⟩
    ·subst h;rw[if_neg (by omega),if_pos rfl]at he;cases he;refine⟨⟨⟨ag,aI⟩,fun aO=>⟨fun h=>⟨h,qB.2 ⟨?_,C2 aO⟩⟩,fun h=>h.1⟩⟩,fun ai e=>by cases e;exact⟨jW,.inl rfl⟩⟩;simp only;rw[qb aO h,oK aO h]
    ·rw[if_neg (by omega),if_neg (by omega)]at he;cases he;refine C9 ag jW hi (by rw[hS]at aG;exact aG) Ec (by simp[T.ap,Ad wK];omega) (fun w hw=>by simp[T.ap,Ad wK]at hw;omega) fun aO hg=>?_;rw[qb aO hg,oK aO hg];simp only[T.ap]
   |_=>have oK:=fun aO h=>(nl aO h).symm.trans (by rw[hS]);rw[ex,hS]at he;simp only[jQ]at he;cases he;refine C9 ag jW (by rw[ex]at ab;exact ab i (by simp[T.occ])) (by rw[hS]at aG;exact aG) Ec (by simp[T.ap]) (fun w hw=>by simp[T.ap]at hw) fun aO hg=>?_;rw[qb aO hg,oK aO hg];simp only[T.ap]
  |pair bE a2=>
   cases hS:ha s b with
   |pair cc b4=>exact bJ bE a2 cc b4 ex hS
   |var j=>have wK:=ID j hS;have qb:=fun aO h=>(td aO h).symm.trans (by rw[ex]);have oK:=fun aO h=>(nl aO h).symm.trans (by rw[hS]);rw[ex,hS]at he;simp only[jQ]at he;cases he;refine C9 ag jW (by rw[hS]at aG;exact aG j (by simp[T.occ])) (by rw[ex]at ab;exact ab) wK (by simp[T.ap]) (fun w hw=>by simp[T.ap]at hw) fun aO hg=>?_;rw[qb aO hg,oK aO hg];simp only[T.ap];exact⟨Eq.symm,Eq.symm⟩
   |_=>have qb:=fun aO h=>(td aO h).symm.trans (by rw[ex]);have oK:=fun aO h=>(nl aO h).symm.trans (by rw[hS]);rw[ex,hS]at he;simp only[jQ]at he;simp at he;subst he;refine⟨Dy fun aO J U=>?_,fun ai e=>by cases e⟩;have:=(qB.1 U).1;simp only at this;rw[qb aO J,oK aO J]at this;simp[T.ap]at this
  |_=>
   have qb:=fun aO h=>(td aO h).symm.trans (by rw[ex]);cases hS:ha s b with
   |var j=>have wK:=ID j hS;have oK:=fun aO h=>(nl aO h).symm.trans (by rw[hS]);rw[ex,hS]at he;simp only[jQ]at he;cases he;refine C9 ag jW (by rw[hS]at aG;exact aG j (by simp[T.occ])) (by rw[ex]at ab;exact ab) wK (by simp[T.ap]) (fun w hw=>by simp[T.ap]at hw) fun aO hg=>?_;rw[qb aO hg,oK aO hg];simp only[T.ap];exact⟨Eq.symm,Eq.symm⟩
   |_=>
    have oK:=fun aO h=>(nl aO h).symm.trans (by rw[hS]);rw[ex,hS]at he;simp only[jQ,dG]at he;split at he
    ·rename_i e;subst he;refine⟨⟨⟨ag,aI⟩,fun aO=>⟨fun h=>⟨h,qB.2 ⟨?_,C2 aO⟩⟩,fun h=>h.1⟩⟩,fun ai e=>by cases e;exact⟨jW,.inl rfl⟩⟩;simp only;rw[qb aO h,oK aO h];try rw[e]
    ·rename_i e;subst he;refine⟨Dy fun aO J U=>?_,fun ai e=>by cases e⟩;have:=(qB.1 U).1;simp only at this;rw[qb aO J,oK aO J]at this;simp[T.ap]at this e;try exact e this
 by_cases EM:∃bE a2 cc b4,ha s a= .pair bE a2∧ha s b= .pair cc b4
 ·obtain⟨bE,a2,cc,b4,ex,hS⟩:=EM;have ef:(bE.ap (cB s)).size+(cc.ap (cB s)).size<m∧(a2.ap (cB s)).size+(b4.ap (cB s)).size<m:=by rw[ex]at L5;rw[hS]at L6;simp only[T.ap]at L5 L6;rw[←hm,←L5,←L6];simp only[T.size];omega
  have kU:pF V bE:=fun w hw=>by rw[ex]at ab;exact ab w (by simp[T.occ,hw])
  have pz:pF V a2:=fun w hw=>by rw[ex]at ab;exact ab w (by simp[T.occ,hw])
  have lg:pF V cc:=fun w hw=>by rw[hS]at aG;exact aG w (by simp[T.occ,hw])
  have oW:pF V b4:=fun w hw=>by rw[hS]at aG;exact aG w (by simp[T.occ,hw])
  have Rq:∀aO,(gH s aO∧jo ([(bE,cc)]++[(a2,b4)]) aO)↔(gH s aO∧jo [(a,b)] aO):=fun aO=>and_congr_right fun h=>by simp only[List.singleton_append,qB,C2,and_true];rw[←td aO h,←nl aO h,ex,hS];simp[T.ap]
  obtain⟨hV,gK,ak,cM⟩:=zl _ ef.1 s bE cc ag aI jW kU lg ad rfl;cases gK with
  |none=>refine⟨hV+1,none,?_,AK Rq (He _ cM.1),fun ai e=>by cases e⟩;simp only[kt,ex,hS,jQ,ak]
  |some s1=>
   obtain⟨v1,v2⟩:=cM.2 s1 rfl;have BO:∃fZ gB,kt fZ s1 a2 b4=some gB∧AJ V s1 a2 b4 gB:=by
    rcases v2 with rfl|v2
    ·exact zl _ ef.2 _ a2 b4 ag aI jW pz oW ad rfl
    ·exact JL _ (by omega) _ s1 a2 b4 cM.1.1.1 cM.1.1.2 v1 pz oW rfl rfl
   obtain⟨fZ,gB,aB,dn⟩:=BO;refine⟨max hV fZ+1,gB,?_,AK Rq (MX cM.1 dn.1),fun ai e=>?_⟩
   ·simp only[kt,ex,hS,jQ,C8 (Nat.le_max_left hV fZ) ak];exact C8 (Nat.le_max_right hV fZ) aB
   ·obtain⟨eD,du⟩:=dn.2 ai e;refine⟨eD,?_⟩;rcases v2 with rfl|v2
    ·exact du
    ·rcases du with rfl|du
     ·exact .inr v2
     ·exact .inr (by omega)
 ·have RV:∀bE a2 cc b4,ha s a= .pair bE a2→ha s b= .pair cc b4→eQ:=fun bE a2 cc b4 J U=>EM ⟨bE,a2,cc,b4,J,U⟩;have:∃o,jQ (kt 0) s (ha s a) (ha s b)=some o:=by cases ex:ha s a<;>cases hS:ha s b<;>simp only[jQ]<;>first|exact⟨_,rfl⟩|exact(RV _ _ _ _ ex hS).elim
  obtain⟨o,aw⟩:=this;exact⟨1,o,aw,key _ o aw fun bE a2 cc b4 J U=>(RV bE a2 cc b4 J U).elim⟩
def c0{α:Type}(k:Int):List (Int×α)→aY α
 |[]=>none
 |(i,v)::r=>if k=i then some v else c0 k r
def eP{α:Type}(k:Int)(v:α):List (Int×α)→List (Int×α)
 |[]=>[(k,v)]
 |(i,w)::r=>if k=i then(i,v)::r else(i,w)::eP k v r
def cn{α:Type}(m:List (Int×α)):List Int:=m.map (·.1)
theorem nc{α:Type}(k:Int)(v:α)(j:Int):∀m:List (Int×α),c0 j (eP k v m)=if j=k then some v else c0 j m
 |[]=>by simp only[eP,c0]
 |(i,w)::r=>by
  simp only[eP];by_cases h:k=i
  ·subst h;by_cases U:j=k<;>simp[c0,U]
  ·by_cases U:j=i
   ·subst U;have:¬j=k:=fun e=>h e.symm;simp[c0,h,this]
   ·simp[c0,h,U,nc k v j r]
theorem GF{α:Type}{k:Int}:∀{m:List (Int×α)},(c0 k m).isSome=true↔k∈cn m
 |[]=>by simp[c0,cn]
 |(i,w)::r=>by
  simp only[c0,cn,gE,fU];by_cases h:k=i
  ·simp[h]
  ·simp only[h,if_false,false_or];exact GF
theorem akO{α:Type}{k:Int}{m:List (Int×α)}:c0 k m=none↔k∉cn m:=by rw[←GF];cases c0 k m<;>simp
theorem B9{α:Type}{k:Int}{v:α}:∀{m:List (Int×α)},k∈cn m→cn (eP k v m)=cn m
 |[],h=>by simp[cn]at h
 |(i,w)::r,h=>by
  simp only[eP];by_cases e:k=i
  ·simp[e,cn]
  ·rw[if_neg e];have cr:k∈cn r:=by simpa[cn,e]using h
   have:=B9 (v:=v) cr;simp only[cn]at this⊢;simp[this]
theorem SX{α:Type}{k:Int}{v:α}:∀{m:List (Int×α)},k∉cn m→cn (eP k v m)=cn m++[k]
 |[],h=>by simp[cn,eP]
 |(i,w)::r,h=>by have e:¬k=i:=fun e=>h (by simp[cn,e]);have cr:k∉cn r:=fun ad=>h (by simp[cn]at ad⊢;exact .inr ad);have:=SX (v:=v) cr;simp only[eP,if_neg e];simp only[cn]at this⊢;simp[this]
structure br where
 up:List (Int×Int)
 shape:List (Int×T)
 shaped:List (Int×Bool)
 color:List (Int×Int)
 size:List (Int×Int)
 full:List (Int×T)
def br.shd(c:br)(x:Int):Bool:=(c0 x c.shaped).getD false
def br.shp(c:br)(x:Int):T:=(c0 x c.shape).getD .nil
def br.col(c:br)(x:Int):Int:=(c0 x c.color).getD 0
def br.sz(c:br)(x:Int):Int:=(c0 x c.size).getD 0
def iL(m:List (Int×Int))(v:Int):Int:=(c0 v m).getD 0
def vO:Nat→List (Int×Int)→Int→aY (Int×List (Int×Int))
 |0,_,_=>none
 |n+1,m,v=>if iL m v=v then some (v,m)else vO n (eP v (iL m (iL m v)) m) (iL (eP v (iL m (iL m v)) m) v)
def yk(v:Int)(m:List (Int×Int)):List (Int×Int):=if(c0 v m).isSome then m else eP v v m
def rt(c:br)(v:Int):aY (Int×br):=(vO (v.toNat+1) (yk v c.up) v).map fun p=>(p.1,{c with up:=p.2})
def T.foldO{α:Type}(f:Int→α→aY α):T→α→aY α
 | .var n,a=>f n a
 | .pair x y,a=>(x.foldO f a).bind (y.foldO f)
 |_,a=>some a
def T.mapO{α:Type}(f:Int→α→aY (T×α)):T→α→aY (T×α)
 | .var n,a=>f n a
 | .pair x y,a=>(x.mapO f a).bind fun p=>(y.mapO f p.2).map fun q=>(.pair p.1 q.1,q.2)
 |t,a=>some (t,a)
def T.sizeO{α:Type}(f:Int→α→aY (Int×α)):T→α→aY (Int×α)
 | .var n,a=>(f n a).map fun p=>(if 5001<p.1 then 5001 else p.1,p.2)
 | .pair x y,a=>(x.sizeO f a).bind fun p=>if 5000<p.1 then some p else(y.sizeO f p.2).map fun q=>(if 5001<1+p.1+q.1 then 5001 else 1+p.1+q.1,q.2)
 |_,a=>some (1,a)
def zx(t:T)(c:br):aY br:=t.foldO (fun v c=>(rt c v).map (·.2)) c
structure s6 where
 c:br
 seen:List (Int×Bool)
 found:Bool
def vN(rec:T→br→List (Int×Bool)→aY s6)(x:Int)(v:Int)(a:s6):aY s6:=
 (rt a.c v).bind fun p=>if a.found=true∨p.1=x then some ⟨p.2,a.seen,true⟩
  else if(c0 p.1 a.seen).getD false=false∧p.2.shd p.1=true then rec (p.2.shp p.1) p.2 (eP p.1 true a.seen)
  else some ⟨p.2,a.seen,a.found⟩
def o6:Nat→Int→T→br→List (Int×Bool)→aY s6
 |0,_,_,_,_=>none
 |n+1,x,t,c,seen=>t.foldO (vN (o6 n x) x) ⟨c,seen,false⟩
def br.know(c:br)(x:Int)(t:T):br:={c with shape:=eP x t c.shape,shaped:=eP x true c.shaped}
def tP(n:Nat)(x:Int)(t:T)(c:br):aY (Bool×br):=(o6 n x t (c.know x t) []).map fun a=>(!a.found,a.c)
def br.join(c:br)(x y:Int):br:={c with up:=eP y x c.up}
def qR(rec:T→T→br→aY (Bool×br))(n:Nat)(x y:Int)(c:br):aY (Bool×br):=
 if c.shd y=false then
  (if c.shd x=false then some (true,c)else(o6 n x (c.shp x) c []).map fun a=>(!a.found,a.c))
 else if c.shd x=false then tP n x (c.shp y) c
 else(o6 n x (c.shp y) c []).bind fun a=>if a.found=true then some (false,a.c)else
  (o6 n x (a.c.shp x) a.c []).bind fun b=>if b.found=true then some (false,b.c)else rec (b.c.shp x) (c.shp y) b.c
def gq:Nat→T→T→br→aY (Bool×br)
 |0,_,_,_=>none
 |n+1,.var i,.var j,c=>(rt c i).bind fun p=>(rt p.2 j).bind fun q=>if p.1=q.1 then some (true,q.2)else if q.1<p.1 then qR (gq n) n q.1 p.1 (q.2.join q.1 p.1)else qR (gq n) n p.1 q.1 (q.2.join p.1 q.1)
 |n+1,.var i,b,c=>(rt c i).bind fun p=>if p.2.shd p.1=false then tP n p.1 b p.2 else gq n (p.2.shp p.1) b p.2
 |n+1,a,.var j,c=>gq n (.var j) a c
 |n+1,.pair bE a2,.pair cc b4,c=>(gq n bE cc c).bind fun p=>if p.1=true then gq n a2 b4 p.2 else some (false,p.2)
 |_+1,a,b,c=>some (decide (a=b),c)
structure jn (m:List (Int×Int)) (ρ:Int→Int):Prop where
 up:∀v u,c0 v m=some u→(0≤u∧u≤v∧u∈cn m)∧ρ u=ρ v∧(ρ v=v↔u=v)
 no:∀v,v∉cn m→ρ v=v
theorem jn.get{m:List (Int×Int)}{ρ:Int→Int}(h:jn m ρ){v:Int}(aJ:v∈cn m):∃u,c0 v m=some u∧iL m v=u:=by have:=GF.2 aJ;obtain⟨u,hu⟩:=fG.1 this;exact⟨u,hu,by simp[iL,hu]⟩
theorem jn.root{m:List (Int×Int)}{ρ:Int→Int}(h:jn m ρ):∀(n:Nat) (v:Int),v.toNat≤n→(ρ v≤v∧ρ (ρ v)=ρ v∧(v∈cn m→ρ v∈cn m∧0≤ρ v)):=by
 intro n;induction n using Nat.strongRecOn with
 |ind n bT=>
 intro v aA;by_cases aJ:v∈cn m
 ·obtain⟨u,J,_⟩:=h.get aJ;obtain⟨⟨bE,a2,a3⟩,a4,a5⟩:=h.up v u J;by_cases e:u=v
  ·have:=a5.2 e;subst e;rw[this];exact⟨by omega,this,fun _=>⟨a3,bE⟩⟩
  ·obtain⟨cc,b4,fD⟩:=bT (u.toNat) (by omega) u (by omega);rw[←a4];exact⟨by omega,b4,fun _=>fD a3⟩
 ·have:=h.no v aJ;rw[this];exact⟨by omega,this,fun h=>absurd h aJ⟩
theorem jn.le{m:List (Int×Int)}{ρ:Int→Int}(h:jn m ρ)(v:Int):ρ v≤v:=(h.root v.toNat v (eR _)).1
theorem jn.idem{m:List (Int×Int)}{ρ:Int→Int}(h:jn m ρ)(v:Int):ρ (ρ v)=ρ v:=(h.root v.toNat v (eR _)).2.1
theorem jn.mem{m:List (Int×Int)}{ρ:Int→Int}(h:jn m ρ){v:Int}(aJ:v∈cn m):ρ v∈cn m∧0≤ρ v:=(h.root v.toNat v (eR _)).2.2 aJ
theorem VH{ρ:Int→Int}:∀(n:Nat) (m:List (Int×Int)) (v:Int),jn m ρ→v∈cn m→v.toNat<n→∃hj,vO n m v=some (ρ v,hj)∧jn hj ρ∧cn hj=cn m
 |0,_,_,_,_,aA=>by omega
 |n+1,m,v,h,aJ,aA=>by
  obtain⟨u,J,U⟩:=h.get aJ;obtain⟨⟨bE,a2,a3⟩,a4,a5⟩:=h.up v u J;simp only[vO,U];by_cases e:u=v
  ·rw[if_pos e];have:=a5.2 e;exact⟨m,by rw[this],h,rfl⟩
  ·rw[if_neg e];obtain⟨x,g1,g2⟩:=h.get a3;obtain⟨⟨cc,b4,fD⟩,nS,Ng⟩:=h.up u x g1;rw[g2];have ad:=B9 (v:=x) aJ;have lT:jn (eP v x m) ρ:=by
    refine⟨fun w y hw=>?_,fun w hw=>h.no w (by rw[ad]at hw;exact hw)⟩;rw[nc]at hw;rw[ad];by_cases ew:w=v
    ·subst ew;rw[if_pos rfl]at hw;cases hw;refine⟨⟨cc,by omega,fD⟩,by rw[nS,a4],⟨fun aL=>absurd (a5.1 aL) e,fun ab=>?_⟩⟩;have:u=w:=by omega
     exact absurd this e
    ·rw[if_neg ew]at hw;exact h.up w y hw
   have aez:iL (eP v x m) v=x:=by simp[iL,nc]
   rw[aez];obtain⟨hj,bI,ch,dc⟩:=VH n (eP v x m) x lT (by rw[ad];exact fD) (by omega);exact⟨hj,by rw[bI,nS,a4],ch,by rw[dc,ad]⟩
structure iw (ρ:Int→Int) (c cm:br):Prop where
 ru:jn cm.up ρ
 keys:cn cm.up=cn c.up
 eq:cm={c with up:=cm.up}
theorem iw.refl{ρ:Int→Int}{c:br}(h:jn c.up ρ):iw ρ c c:=⟨h,rfl,rfl⟩
theorem iw.trans{ρ:Int→Int}{a b c:br}(h:iw ρ a b)(k:iw ρ b c):iw ρ a c:=⟨k.ru,k.keys.trans h.keys,by rw[k.eq,h.eq]⟩
theorem iw.shd{ρ:Int→Int}{c cm:br}(h:iw ρ c cm)(x:Int):cm.shd x=c.shd x:=by rw[h.eq];rfl
theorem iw.shp{ρ:Int→Int}{c cm:br}(h:iw ρ c cm)(x:Int):cm.shp x=c.shp x:=by rw[h.eq];rfl
theorem sK{ρ:Int→Int}{c:br}{v:Int}(h:jn c.up ρ)(aJ:v∈cn c.up):∃cm,rt c v=some (ρ v,cm)∧iw ρ c cm:=by
 have bF:yk v c.up=c.up:=by simp[yk,GF.2 aJ]
 obtain⟨hj,J,U,ao⟩:=VH (v.toNat+1) c.up v h aJ (by omega);exact⟨{c with up:=hj},by simp[rt,bF,J],⟨U,ao,rfl⟩⟩
theorem ajU{ρ:Int→Int}{c:br}{v:Int}(h:jn c.up ρ)(bA:0≤v)(aJ:v∉cn c.up):rt c v=some (v,{c with up:=eP v v c.up})∧jn (eP v v c.up) ρ∧cn (eP v v c.up)=cn c.up++[v]:=by
 have aA:=akO.2 aJ;have ad:=SX (v:=v) aJ;refine⟨?_,⟨fun w u hw=>?_,fun w hw=>h.no w fun hm=>hw (by rw[ad];simp[hm])⟩,ad⟩
 ·simp[rt,yk,aA,vO,iL,nc]
 ·rw[nc]at hw;rw[ad];by_cases e:w=v
  ·subst e;rw[if_pos rfl]at hw;cases hw;exact⟨⟨bA,by omega,by simp⟩,rfl,⟨fun _=>rfl,fun _=>h.no _ aJ⟩⟩
  ·rw[if_neg e]at hw;obtain⟨⟨bE,a2,a3⟩,a4⟩:=h.up w u hw;exact⟨⟨bE,a2,by simp[a3]⟩,a4⟩
def br.ph(c:br)(x:Int):aY T:=if c.shd x then some (c.shp x)else none
theorem iw.ph{ρ:Int→Int}{c cm:br}(h:iw ρ c cm):cm.ph=c.ph:=by funext x;simp only[br.ph,h.shd,h.shp]
def jS(ph:Int→aY T)(ρ:Int→Int)(aO:Int→T):Prop:=(∀v,aO v=aO (ρ v))∧∀x t,ρ x=x→ph x=some t→aO x=t.ap aO
def iN(ph:Int→aY T)(ρ:Int→Int)(z u:Int):Prop:=ρ z=z∧∃t w,ph z=some t∧t.occ w=true∧ρ w=u
inductive mD (E:Int→Int→Prop):Int→Int→Prop
 |refl (a:Int):mD E a a
 |step {a b c:Int}:E a b→mD E b c→mD E a c
def nR(V:List Int)(ph:Int→aY T):Prop:= ∀x t,ph x=some t→t.kind≠1∧(∀w,t.occ w=true→w∈V)∧x∈V
def GL(V:List Int)(ph:Int→aY T)(seen:List (Int×Bool)):Nat:=(V.filter fun v=>(ph v).isSome&& !((c0 v seen).getD false)).length
def ml(seen:List (Int×Bool))(z:Int):Prop:=(c0 z seen).getD false=true
structure Xs (V:List Int) (ph:Int→aY T) (ρ:Int→Int) (x:Int) (occ:Int→Prop) (a bn:s6):Prop where
 sm:iw ρ a.c bn.c
 sub:∀z,ml a.seen z→ml bn.seen z
 yes:bn.found=true→a.found=true∨ ∃w,occ w∧mD (iN ph ρ) (ρ w) x
 kept:a.found=true→bn.found=true
 no:bn.found=false→(∀w,occ w→ρ w≠x∧((ph (ρ w)).isSome=true→ml bn.seen (ρ w)))∧∀r,ml bn.seen r→¬ml a.seen r→∀u,iN ph ρ r u→u≠x∧((ph u).isSome=true→ml bn.seen u)
theorem Ed{α:Type}{p q:α→Bool}:∀{V:List α},(∀x∈V,q x=true→p x=true)→(V.filter q).length≤(V.filter p).length
 |[],_=>by simp
 |y::V,h=>by have:=Ed (p:=p) (q:=q) (V:=V) fun x ab=>h x (by simp[ab]);have aG:=h y (by simp);simp only[List.filter_cons];cases e:q y<;>cases aB:p y<;>simp_all<;>omega
theorem Ee{α:Type}{p q:α→Bool}{v:α}:∀{V:List α},(∀x∈V,q x=true→p x=true)→v∈V→p v=true→q v=false→(V.filter q).length<(V.filter p).length
 |[],_,h,_,_=>by simp at h
 |x::V,h,aJ,bJ,bo=>by
  have hle:=Ed (p:=p) (q:=q) (V:=V) fun x ab=>h x (pf _ ab);simp only[List.filter_cons];rcases fU.1 aJ with rfl|aJ
  ·simp[bJ,bo];omega
  ·have:=Ee (fun x ab=>h x (pf _ ab)) aJ bJ bo;have ab:=h x (by simp);cases e:q x<;>cases aB:p x<;>simp_all<;>omega
theorem akV{V:List Int}{ph:Int→aY T}{s ai:List (Int×Bool)}(h:∀z,ml s z→ml ai z):GL V ph ai≤GL V ph s:=
 Ed fun x _ ab=>by
  simp only[cA,Bool.not_eq_true']at ab⊢;refine⟨ab.1,?_⟩;cases e:(c0 x s).getD false with
  |false=>rfl
  |true=>have:=h x e;unfold ml at this;rw[ab.2]at this;cases this
theorem JM{s:List (Int×Bool)}{r z:Int}:ml (eP r true s) z↔z=r∨ml s z:=by unfold ml;rw[nc];by_cases h:z=r<;>simp[h]
theorem ajN{V:List Int}{ph:Int→aY T}{ρ:Int→Int}{x:Int}(gw:nR V ph)(k:Nat):∀(t:T) (a:s6),jn a.c.up ρ→cn a.c.up=V→a.c.ph=ph→(∀w,t.occ w=true→w∈V)→GL V ph a.seen≤k→
  ∃N bn,(∀n,N≤n→t.foldO (vN (o6 n x) x) a=some bn)∧Xs V ph ρ x (fun w=>t.occ w=true) a bn:=by
 induction k using Nat.strongRecOn with
 |ind k JL=>
 intro t;induction t with
 |var v=>
  intro a lT ad jg aN BU;obtain⟨bI,J,U⟩:=sK lT (by rw[ad];exact aN v (by simp[T.occ]));have lU:bI.shd (ρ v)=(ph (ρ v)).isSome:=by rw[U.shd,←jg];simp only[br.ph];split<;>simp_all
  by_cases aI:a.found=true∨ρ v=x
  ·refine⟨0,⟨bI,a.seen,true⟩,fun n _=>by simp[T.foldO,vN,J,aI],U,fun z bD=>bD,fun _=>?_,fun _=>rfl,fun h=>by cases h⟩;rcases aI with aI|aI
   ·exact .inl aI
   ·exact .inr ⟨v,by simp[T.occ],by rw[aI];exact .refl _⟩
  ·by_cases ag:(c0 (ρ v) a.seen).getD false=false∧bI.shd (ρ v)=true
   ·have EL:ph (ρ v)=some (bI.shp (ρ v)):=by rw[←jg];simp only[br.ph,U.shp];rw[if_pos (by rw[←U.shd];exact ag.2)]
    obtain⟨g1,g2,g3⟩:=gw _ _ EL;have bC:GL V ph (eP (ρ v) true a.seen)<k:=by
     refine Nat.lt_of_lt_of_le (Ee (v:=ρ v) (fun z _ bD=>?_) g3 ?_ ?_) BU
     ·simp only[cA,Bool.not_eq_true']at bD⊢;refine⟨bD.1,?_⟩;rw[nc]at bD;by_cases e:z=ρ v
      ·subst e;exact ag.1
      ·rw[if_neg e]at bD;exact bD.2
     ·simp[EL,ag.1]
     ·simp[nc]
    obtain⟨N,bn,ak,cM⟩:=JL _ bC (bI.shp (ρ v)) ⟨bI,eP (ρ v) true a.seen,false⟩ U.ru (by rw[U.keys];exact ad) (by rw[U.ph];exact jg) g2 (eR _);refine⟨N+1,bn,fun n aA=>?_,U.trans cM.sm,fun z bD=>cM.sub z (JM.2 (.inr bD)),fun aG=>?_,fun h=>absurd (.inl h) aI,fun di=>?_⟩
    ·obtain⟨n',rfl⟩:∃n',n=n'+1:=⟨n-1,by omega⟩;simp only[T.foldO,vN,J,j5,if_neg aI,if_pos ag,o6];exact ak n' (by omega)
    ·rcases cM.yes aG with h|⟨w,a6,bu⟩
     ·cases h
     ·exact .inr ⟨v,by simp[T.occ],.step ⟨by rw[jn.idem lT],_,w,EL,a6,rfl⟩ bu⟩
    ·obtain⟨a6,bu⟩:=cM.no di;have je:ml bn.seen (ρ v):=cM.sub _ (JM.2 (.inl rfl));refine⟨fun w hw=>?_,fun r aL dE u hu=>?_⟩
     ·simp[T.occ]at hw;subst hw;exact⟨fun e=>aI (.inr e),fun _=>je⟩
     ·by_cases qi:r=ρ v
      ·subst qi;obtain⟨_,dJ,w,kN,z2,rfl⟩:=hu;rw[EL]at kN;cases kN;exact a6 w z2
      ·exact bu r aL (fun h=>(JM.1 h).elim qi dE) u hu
   ·have Bu:a.found=false:=by cases e:a.found with
     |false=>rfl
     |true=>exact absurd (.inl e) aI
    refine⟨0,⟨bI,a.seen,a.found⟩,fun n _=>by simp only[T.foldO,vN,J,j5,if_neg aI,if_neg ag],U,fun z bD=>bD,fun h=>.inl h,fun h=>h,fun _=>⟨fun w hw=>?_,fun r J U=>absurd J U⟩⟩;simp[T.occ]at hw;subst hw;refine⟨fun e=>aI (.inr e),fun bJ=>?_⟩;unfold ml;cases e:(c0 (ρ v) a.seen).getD false with
    |true=>rfl
    |false=>exact absurd ⟨e,by rw[lU];exact bJ⟩ ag
 |pair p q aeR aeS=>
  intro a lT ad jg aN BU;obtain⟨hy,bE,ak,cM⟩:=aeR a lT ad jg (fun w hw=>aN w (by simp[T.occ,hw])) BU;obtain⟨iP,a2,aB,dn⟩:=aeS bE cM.sm.ru (by rw[cM.sm.keys];exact ad) (by rw[cM.sm.ph];exact jg) (fun w hw=>aN w (by simp[T.occ,hw])) (j4 (akV cM.sub) BU);refine⟨max hy iP,a2,fun n aA=>by simp only[T.foldO];rw[ak n (by omega)];exact aB n (by omega),cM.sm.trans dn.sm,fun z bD=>dn.sub z (cM.sub z bD),fun aG=>?_,fun h=>dn.kept (cM.kept h),fun di=>?_⟩
  ·rcases dn.yes aG with h|⟨w,a6,bu⟩
   ·rcases cM.yes h with h|⟨w,a6,bu⟩
    ·exact .inl h
    ·exact .inr ⟨w,by simp[T.occ,a6],bu⟩
   ·exact .inr ⟨w,by simp[T.occ,a6],bu⟩
  ·have acZ:bE.found=false:=by cases e:bE.found with
    |false=>rfl
    |true=>have:=dn.kept e;rw[di]at this;cases this
   obtain⟨dI,eY⟩:=cM.no acZ;obtain⟨s1,s2⟩:=dn.no di;refine⟨fun w hw=>?_,fun r aL dE u hu=>?_⟩
   ·simp only[T.occ,mB]at hw;rcases hw with hw|hw
    ·exact⟨(dI w hw).1,fun h=>dn.sub _ ((dI w hw).2 h)⟩
    ·exact s1 w hw
   ·by_cases h:ml bE.seen r
    ·exact⟨(eY r h dE u hu).1,fun cO=>dn.sub _ ((eY r h dE u hu).2 cO)⟩
    ·exact s2 r aL h u hu
 |_=>intro a lT ad jg aN BU;exact⟨0,a,fun n _=>rfl,iw.refl lT,fun z bD=>bD,fun h=>.inl h,fun h=>h,fun _=>⟨fun w hw=>by simp[T.occ]at hw,fun r J U=>absurd J U⟩⟩
theorem F9{ρ:Int→Int}{x:Int}{c:br}{t:T}(lT:jn c.up ρ)(gw:nR (cn c.up) c.ph)(aN:∀w,t.occ w=true→w∈cn c.up):
  ∃N a,(∀n,N≤n→o6 n x t c []=some a)∧iw ρ c a.c∧(a.found=true↔∃w,t.occ w=true∧mD (iN c.ph ρ) (ρ w) x):=by
 obtain⟨N,a,J,U⟩:=ajN (x:=x) gw _ t ⟨c,[],false⟩ lT rfl rfl aN (eR _);refine⟨N+1,a,fun n aA=>?_,U.sm,fun h=>?_,fun⟨w,hw,aL⟩=>?_⟩
 ·obtain⟨n',rfl⟩:∃n',n=n'+1:=⟨n-1,by omega⟩;exact J n' (by omega)
 ·rcases U.yes h with h|h
  ·cases h
  ·exact h
 ·cases e:a.found with
  |true=>rfl
  |false=>
   obtain⟨a6,bu⟩:=U.no e;have key:∀z,mD (iN c.ph ρ) z x→z≠x→((c.ph z).isSome=true→ml a.seen z)→eQ:=by
    have:∀z y,mD (iN c.ph ρ) z y→y=x→z≠x→((c.ph z).isSome=true→ml a.seen z)→eQ:=by
     intro z y aG;induction aG with
     |refl z=>intro h cr;exact absurd h cr
     | @step z b cm he _ bT=>intro ab cF je;obtain⟨_,dJ,w',kN,_,_⟩:=id he;have ag:=je (by simp[kN]);obtain⟨g1,g2⟩:=bu z ag (by simp[ml,c0]) b he;exact bT ab g1 g2
    exact fun z bD=>this z x bD rfl
   exact(key _ aL (a6 w hw).1 (a6 w hw).2).elim
end Go.Pv
namespace Go.Pv
open Go
theorem XD{E:Int→Int→Prop}{x:Int}{r:Int→Nat}{M:Nat}(h:∀z u,z≠x→E z u→r u<r z)(dT:∀u,E x u→r u<M)(aA:∀u,E x u→¬mD E u x):∃eF:Int→Nat,∀z u,E z u→eF u<eF z:=by
 classical
 refine⟨fun z=>if mD E z x then r z+M else r z,fun z u he=>?_⟩;show(if mD E u x then r u+M else r u)<(if mD E z x then r z+M else r z);by_cases bD:z=x
 ·subst bD;have J:=aA u he;have U:=dT u he;rw[if_neg J,if_pos (mD.refl z)];omega
 ·have J:=h z u bD he;by_cases hu:mD E u x
  ·rw[if_pos hu,if_pos (mD.step he hu)];omega
  ·rw[if_neg hu];split<;>omega
def mI(ph:Int→aY T)(ρ:Int→Int):Nat→Int→T
 |0,v=>.var (ρ v)
 |n+1,v=>match ph (ρ v)with
  |none=>.var (ρ v)
  |some t=>t.ap (mI ph ρ n)
section
variable {ph:Int→aY T} {ρ:Int→Int} {r:Int→Nat}
theorem Z2(eU:∀v,ρ (ρ v)=ρ v):∀(n:Nat) (v:Int),mI ph ρ n v=mI ph ρ n (ρ v)
 |0,v=>by simp[mI,eU]
 |n+1,v=>by simp[mI,eU]
theorem Qd(eU:∀v,ρ (ρ v)=ρ v)(aL:∀z u,iN ph ρ z u→r u<r z):∀(n:Nat) (v:Int),r (ρ v)<n→mI ph ρ n v=mI ph ρ (n+1) v
 |0,_,h=>by omega
 |n+1,v,h=>by
  show(match ph (ρ v)with|none=>T.var (ρ v)|some t=>t.ap (mI ph ρ n))=(match ph (ρ v)with|none=>T.var (ρ v)|some t=>t.ap (mI ph ρ (n+1)));cases e:ph (ρ v)with
  |none=>rfl
  |some t=>refine tc fun w hw=>Qd eU aL n w ?_;have:=aL (ρ v) (ρ w) ⟨eU v,t,w,e,hw,rfl⟩;omega
theorem Qc(eU:∀v,ρ (ρ v)=ρ v)(aL:∀z u,iN ph ρ z u→r u<r z){n:Nat}{v:Int}(h:r (ρ v)<n):∀k,mI ph ρ (n+k) v=mI ph ρ n v
 |0=>rfl
 |k+1=>by rw[←Qc eU aL h k];exact(Qd eU aL (n+k) v (by omega)).symm
def gI(ph:Int→aY T)(ρ:Int→Int)(r:Int→Nat)(v:Int):T:=mI ph ρ (r (ρ v)+1) v
theorem yM(eU:∀v,ρ (ρ v)=ρ v)(v:Int):gI ph ρ r v=gI ph ρ r (ρ v):=by unfold gI;rw[Z2 eU,eU]
theorem Bf{v:Int}(h:ph (ρ v)=none):gI ph ρ r v= .var (ρ v):=by simp[gI,mI,h]
theorem yN(eU:∀v,ρ (ρ v)=ρ v)(aL:∀z u,iN ph ρ z u→r u<r z){v:Int}{t:T}(h:ph (ρ v)=some t):gI ph ρ r v=t.ap (gI ph ρ r):=by show mI ph ρ (r (ρ v)+1) v=_;simp only[mI,h];refine tc fun w hw=>?_;have J:=aL (ρ v) (ρ w) ⟨eU v,t,w,h,hw,rfl⟩;have:=Qc eU aL (n:=r (ρ w)+1) (v:=w) (by omega) (r (ρ v)-(r (ρ w)+1));rw[show r (ρ w)+1+(r (ρ v)-(r (ρ w)+1))=r (ρ v)from by omega]at this;exact this
theorem acX(eU:∀v,ρ (ρ v)=ρ v)(aL:∀z u,iN ph ρ z u→r u<r z):jS ph ρ (gI ph ρ r):=⟨yM eU,fun x t ab h=>yN eU aL (by rw[ab];exact h)⟩
theorem Gy{V:List Int}(gw:nR V ph){aO:Int→T}(h:jS ph ρ aO){z u:Int}(he:iN ph ρ z u):(aO u).size<(aO z).size:=by obtain⟨J,t,w,U,ao,rfl⟩:=he;rw[h.2 z t J U,←h.1 w];exact(zG aO ao).2 (gw z t U).1
theorem Gz{V:List Int}(gw:nR V ph){aO:Int→T}(h:jS ph ρ aO){z u:Int}(he:mD (iN ph ρ) z u):(aO u).size≤(aO z).size:=by
 induction he with
 |refl=>exact eR _
 |step J _ bT=>have:=Gy gw h J;omega
end
theorem X4(r:Int→Nat)(t:T):∃M,∀w,t.occ w=true→r w<M:=by
 induction t with
 |var n=>exact⟨r n+1,fun w hw=>by simp[T.occ]at hw;subst hw;omega⟩
 |pair a b dR dS=>
  obtain⟨Xo,J⟩:=dR;obtain⟨Xp,U⟩:=dS;refine⟨Xo+Xp,fun w hw=>?_⟩;simp only[T.occ,mB]at hw;rcases hw with hw|hw
  ·have:=J w hw;omega
  ·have:=U w hw;omega
 |_=>exact⟨0,fun w hw=>by simp[T.occ]at hw⟩
theorem CV{ph:Int→aY T}{ρ:Int→Int}(eU:∀v,ρ (ρ v)=ρ v){x:Int}{r:Int→Nat}(h:∀z u,z≠x→iN ph ρ z u→r u<r z)(aA:∀u,iN ph ρ x u→¬mD (iN ph ρ) u x):∃aO,jS ph ρ aO:=by
 have dT:∃M,∀u,iN ph ρ x u→r u<M:=by
  cases e:ph x with
  |none=>exact⟨0,fun u ⟨_,t,w,J,_⟩=>by rw[e]at J;cases J⟩
  |some t=>obtain⟨M,dT⟩:=X4 (fun w=>r (ρ w)) t;refine⟨M,fun u ⟨_,dJ,w,J,U,ao⟩=>?_⟩;rw[e]at J;cases J;subst ao;exact dT w U
 obtain⟨M,dT⟩:=dT;obtain⟨eF,dE⟩:=XD h dT aA;exact⟨_,acX eU dE⟩
structure lI (c:br) (ρ:Int→Int):Prop where
 ru:jn c.up ρ
 sh:nR (cn c.up) c.ph
 sat:∃aO,jS c.ph ρ aO
theorem lI.sm{c cm:br}{ρ:Int→Int}(h:lI c ρ)(k:iw ρ c cm):lI cm ρ:=⟨k.ru,by rw[k.keys,k.ph];exact h.sh,by rw[k.ph];exact h.sat⟩
def ia(c:br)(ρ:Int→Int):Nat:=((cn c.up).filter fun v=>decide (ρ v=v)).length+((cn c.up).filter fun v=>decide (ρ v=v)&& !(c.ph v).isSome).length
theorem wh{c cm:br}{ρ:Int→Int}(k:iw ρ c cm):ia cm ρ=ia c ρ:=by unfold ia;rw[k.keys,k.ph]
structure iO (c:br) (ρ:Int→Int) (p:(Int→T)→Prop) (o:Bool×br):Prop where
 keys:cn o.2.up=cn c.up
 rest:o.2.color=c.color∧o.2.size=c.size∧o.2.full=c.full
 yes:o.1=true→∃ρ',lI o.2 ρ'∧(∀aO,jS o.2.ph ρ' aO↔jS c.ph ρ aO∧p aO)∧((ρ'=ρ∧o.2.ph=c.ph)∨ia o.2 ρ'<ia c ρ)
 no:o.1=false→∀aO,jS c.ph ρ aO→¬p aO
theorem iw.rest{ρ:Int→Int}{c cm:br}(h:iw ρ c cm):cm.color=c.color∧cm.size=c.size∧cm.full=c.full:=by rw[h.eq];exact⟨rfl,rfl,rfl⟩
theorem iO.sm{c cm:br}{ρ:Int→Int}{p:(Int→T)→Prop}{o:Bool×br}(k:iw ρ c cm)(h:iO cm ρ p o):iO c ρ p o:=⟨h.keys.trans k.keys,by rw[h.rest.1,h.rest.2.1,h.rest.2.2];exact k.rest,fun e=>by rw[←wh k,←k.ph];exact h.yes e,by rw[←k.ph];exact h.no⟩
theorem iO.congr{c:br}{ρ:Int→Int}{p q:(Int→T)→Prop}{o:Bool×br}(kk:∀aO,jS c.ph ρ aO→(p aO↔q aO))(h:iO c ρ p o):iO c ρ q o:=⟨h.keys,h.rest,fun e=>by obtain⟨ρ',J,U,ao⟩:=h.yes e;exact⟨ρ',J,fun aO=>(U aO).trans (and_congr_right fun ag=>kk aO ag),ao⟩,fun e aO ag bo=>h.no e aO ag ((kk aO ag).2 bo)⟩
theorem vG(c:br)(x:Int)(t:T)(z:Int):(c.know x t).ph z=if z=x then some t else c.ph z:=by
 simp only[br.ph,br.know,br.shd,br.shp,nc];by_cases h:z=x
 ·simp[h]
 ·simp only[if_neg h];exact ite_congr rfl (fun _=>rfl) fun _=>rfl
theorem Tf{c:br}{ρ:Int→Int}(hi:lI c ρ){x:Int}(ab:ρ x=x)(ad:x∈cn c.up)(jg:c.ph x=none){t:T}(aN:t.kind≠1)(aJ:∀w,t.occ w=true→w∈cn c.up):
  ∃N o,(∀n,N≤n→tP n x t c=some o)∧iO c ρ (fun aO=>aO x=t.ap aO) o:=by
 have gw:nR (cn (c.know x t).up) (c.know x t).ph:=by
  intro z u bD;rw[vG]at bD;split at bD
  ·rename_i e;cases bD;subst e;exact⟨aN,aJ,ad⟩
  ·exact hi.sh z u bD
 have kX:∀aO,jS (c.know x t).ph ρ aO↔jS c.ph ρ aO∧aO x=t.ap aO:=by
  intro aO;constructor
  ·rintro⟨J,U⟩;refine⟨⟨J,fun z u bD hu=>U z u bD ?_⟩,U x t ab (by rw[vG];simp)⟩;rw[vG];split
   ·rename_i e;subst e;rw[jg]at hu;cases hu
   ·exact hu
  ·rintro⟨⟨J,U⟩,ao⟩;refine⟨J,fun z u bD hu=>?_⟩;rw[vG]at hu;split at hu
   ·rename_i e;subst e;cases hu;exact ao
   ·exact U z u bD hu
 obtain⟨N,a,J,U,ao⟩:=F9 (x:=x) (c:=c.know x t) (t:=t) hi.ru gw aJ;refine⟨N,(!a.found,a.c),fun n aA=>by simp[tP,J n aA],U.keys,U.rest,fun aI=>?_,fun aI aO ag he=>?_⟩
 ·simp only[Bool.not_eq_true']at aI;have aec:∀u,iN (c.know x t).ph ρ x u→¬mD (iN (c.know x t).ph ρ) u x:=by rintro u ⟨_,dJ,w,a6,bu,rfl⟩ aL;rw[vG,if_pos rfl]at a6;cases a6;have:=ao.2 ⟨w,bu,aL⟩;rw[aI]at this;cases this
  obtain⟨kO,tJ⟩:=hi.sat
  have aes:=CV (ph:=(c.know x t).ph) (ρ:=ρ) hi.ru.idem (x:=x) (r:=fun z=>(kO z).size) (fun z u bD he=>by refine Gy hi.sh tJ ?_;obtain⟨ak,dJ,w,aB,bj⟩:=he;rw[vG,if_neg bD]at aB;exact⟨ak,dJ,w,aB,bj⟩) aec
  refine⟨ρ,⟨U.ru,?_,?_⟩,fun aO=>?_,.inr ?_⟩
  ·simp only[U.keys,U.ph];exact gw
  ·simp only[U.ph];exact aes
  ·simp only[U.ph];exact kX aO
  ·simp only[wh U];unfold ia;have ak:cn (c.know x t).up=cn c.up:=rfl;rw[ak];have:=Ee (V:=cn c.up) (v:=x) (p:=fun v=>decide (ρ v=v)&& !(c.ph v).isSome) (q:=fun v=>decide (ρ v=v)&& !((c.know x t).ph v).isSome) (fun z _ bD=>by
    rw[vG]at bD;split at bD
    ·simp at bD
    ·exact bD) ad (by simp[ab,jg]) (by simp[vG])
   omega
 ·simp only[Bool.not_eq_false']at aI;obtain⟨w,a6,bu⟩:=ao.1 aI;have gi:=(kX aO).2 ⟨ag,he⟩;have:=Gz gw gi bu;have a8:=(zG aO a6).2 aN;rw[←he]at a8;rw[←ag.1 w]at this;omega
def iT(ρ:Int→Int)(x y:Int)(v:Int):Int:=if ρ v=y then x else ρ v
section
variable {c:br} {ρ:Int→Int} {x y:Int}
theorem pI(ab:ρ x=x)(aG:ρ y=y)(hJ:x≠y){z:Int}:iT ρ x y z=z↔ρ z=z∧z≠y:=by
 unfold iT;split
 ·rename_i e;constructor
  ·intro h;subst h;rw[ab]at e;exact absurd e hJ
  ·rintro⟨J,U⟩;rw[J]at e;exact absurd e U
 ·rename_i e;constructor
  ·intro h;exact⟨h,fun aB=>e (by rw[aB,aG])⟩
  ·exact fun h=>h.1
theorem jn.join(h:jn c.up ρ)(ab:ρ x=x)(aG:ρ y=y)(hJ:x<y)(Cb:x∈cn c.up)(tQ:y∈cn c.up):jn (c.join x y).up (iT ρ x y):=by
 have ad:cn (c.join x y).up=cn c.up:=B9 tQ;refine⟨fun v u aJ=>?_,fun v aJ=>?_⟩
 ·rw[ad];have lV:c0 v (eP y x c.up)=some u:=aJ;rw[nc]at lV;by_cases e:v=y
  ·subst e;rw[if_pos rfl]at lV;cases lV;have bA:=(h.mem Cb).2;rw[ab]at bA;refine⟨⟨bA,by omega,Cb⟩,?_,⟨fun e=>?_,fun e=>by omega⟩⟩
   ·unfold iT;rw[ab,aG,if_pos rfl,if_neg (by omega)]
   ·have:=((pI ab aG (by omega)).1 e).2;exact absurd rfl this
  ·rw[if_neg e]at lV;obtain⟨bE,a2,a3⟩:=h.up v u lV;refine⟨bE,by unfold iT;rw[a2],?_⟩;rw[pI ab aG (by omega),a3];exact⟨fun h=>h.1,fun h=>⟨h,e⟩⟩
 ·rw[ad]at aJ;have:=h.no v aJ;unfold iT;rw[this,if_neg fun e=>aJ (by rw[e];exact tQ)]
theorem akn{ph:Int→aY T}(ab:ρ x=x)(aG:ρ y=y)(hJ:x≠y)(aO:Int→T):(jS ph (iT ρ x y) aO∧∀t,ph y=some t→aO x=t.ap aO)↔(jS ph ρ aO∧aO x=aO y):=by
 constructor
 ·rintro⟨⟨J,U⟩,ao⟩;have JJ:aO y=aO x:=by have:=J y;simpa[iT,aG]using this
  refine⟨⟨fun v=>?_,fun z t bD aN=>?_⟩,JJ.symm⟩
  ·have:=J v;unfold iT at this;split at this
   ·rename_i e;rw[e,this,JJ]
   ·exact this
  ·by_cases e:z=y
   ·subst e;rw[JJ];exact ao t aN
   ·exact U z t ((pI ab aG hJ).2 ⟨bD,e⟩) aN
 ·rintro⟨⟨J,U⟩,ao⟩;refine⟨⟨fun v=>?_,fun z t bD aN=>U z t ((pI ab aG hJ).1 bD).1 aN⟩,fun t aN=>by rw[ao];exact U y t aG aN⟩;unfold iT;split
  ·rename_i e;rw[J v,e,ao]
  ·exact J v
theorem ajM{V:List Int}{ph:Int→aY T}(gw:nR V ph)(ab:ρ x=x)(aG:ρ y=y)(hJ:x≠y){aO:Int→T}(h:jS ph ρ aO){z u:Int}(bD:z≠x)(he:iN ph (iT ρ x y) z u):(if u=x then 0 else(aO u).size)<(if z=x then 0 else(aO z).size):=by
 obtain⟨J,t,w,U,ao,rfl⟩:=he;have aL:=(pI ab aG hJ).1 J;rw[if_neg bD];split
 ·exact T.size_pos _
 ·rename_i cF;have:iT ρ x y w=ρ w:=by
   unfold iT at cF⊢;split
   ·rename_i e;rw[if_pos e]at cF;exact absurd rfl cF
   ·rfl
  rw[this];exact Gy gw h ⟨aL.1,t,w,U,ao,rfl⟩
theorem Xl(ab:ρ x=x)(aG:ρ y=y)(hJ:x≠y)(tQ:y∈cn c.up):ia (c.join x y) (iT ρ x y)<ia c ρ:=by have ad:cn (c.join x y).up=cn c.up:=B9 tQ;have bJ:(c.join x y).ph=c.ph:=rfl;unfold ia;rw[ad,bJ];have J:=Ee (V:=cn c.up) (v:=y) (p:=fun v=>decide (ρ v=v)) (q:=fun v=>decide (iT ρ x y v=v)) (fun z _ bD=>by simp only[fH]at bD⊢;exact((pI ab aG hJ).1 bD).1) tQ (by simp[aG]) (by simp only[hE];exact fun h=>((pI ab aG hJ).1 h).2 rfl);have U:=Ed (V:=cn c.up) (p:=fun v=>decide (ρ v=v)&& !(c.ph v).isSome) (q:=fun v=>decide (iT ρ x y v=v)&& !(c.ph v).isSome) (fun z _ bD=>by simp only[cA,fH]at bD⊢;exact⟨((pI ab aG hJ).1 bD.1).1,bD.2⟩);omega
end
theorem zP{c:br}{x:Int}(h:c.shd x=false):c.ph x=none:=by simp[br.ph,h]
theorem zQ{c:br}{x:Int}(h:¬c.shd x=false):c.ph x=some (c.shp x):=by simp[br.ph];simpa using h
theorem P5{c:br}{ρ:Int→Int}(hi:lI c ρ){x y:Int}(ab:ρ x=x)(aG:ρ y=y)(hJ:x<y)(Cb:x∈cn c.up)(tQ:y∈cn c.up)
  (rec:∀(bI:br) (k6:Int→Int),lI bI k6→cn bI.up=cn c.up→ia bI k6<ia c ρ→∀a b:T,(∀w,a.occ w=true→w∈cn c.up)→(∀w,b.occ w=true→w∈cn c.up)→∃N o,(∀n,N≤n→gq n a b bI=some o)∧iO bI k6 (fun aO=>a.ap aO=b.ap aO) o):
  ∃N o,(∀n,N≤n→qR (gq n) n x y (c.join x y)=some o)∧iO c ρ (fun aO=>aO x=aO y) o:=by
 have cF:x≠y:=by omega
 have ad:cn (c.join x y).up=cn c.up:=B9 tQ;have bJ:(c.join x y).ph=c.ph:=rfl;have lT:=hi.ru.join ab aG hJ Cb tQ;have c9:=Xl (c:=c) ab aG cF tQ;have gw:nR (cn (c.join x y).up) (c.join x y).ph:=by rw[ad,bJ];exact hi.sh
 obtain⟨kO,tJ⟩:=hi.sat
 have EO:∀z u,z≠x→iN c.ph (iT ρ x y) z u→(fun z=>if z=x then 0 else(kO z).size) u<(fun z=>if z=x then 0 else(kO z).size) z:=fun z u bD he=>ajM hi.sh ab aG cF tJ bD he;have kX:=fun aO=>akn (ph:=c.ph) ab aG cF aO;have Sb:∀{cm:br},iw (iT ρ x y) (c.join x y) cm→(∃aO,jS c.ph (iT ρ x y) aO)→c.ph y=none→iO c ρ (fun aO=>aO x=aO y) (true,cm):=by intro cm k ag aA;refine⟨k.keys.trans ad,k.rest,fun _=>⟨iT ρ x y,⟨k.ru,by simp only[k.keys,k.ph];exact gw,by simp only[k.ph];exact ag⟩,fun aO=>?_,.inr (by simp only[wh k];exact c9)⟩,fun e=>by cases e⟩;simp only[k.ph,bJ];rw[←kX aO];exact⟨fun h=>⟨h,fun t aN=>by rw[aA]at aN;cases aN⟩,fun h=>h.1⟩
 by_cases J:(c.join x y).shd y=false
 ·have RX:c.ph y=none:=zP J;by_cases U:(c.join x y).shd x=false
  ·have y6:c.ph x=none:=zP U;refine⟨0,(true,c.join x y),fun n _=>by simp only[qR,if_pos J,if_pos U],Sb (iw.refl lT) ?_ RX⟩;exact CV lT.idem (x:=x) EO fun u ⟨_,t,w,q,_⟩=>by rw[y6]at q;cases q
  ·have ny:c.ph x=some ((c.join x y).shp x):=zQ U;obtain⟨N,a,ak,aB,bj⟩:=F9 (x:=x) (c:=c.join x y) (t:=(c.join x y).shp x) lT gw (by rw[ad];exact(hi.sh _ _ ny).2.1);refine⟨N,(!a.found,a.c),fun n aA=>by simp only[qR,if_pos J,if_neg U,ak n aA,nM],?_⟩;cases aI:a.found with
   |false=>refine Sb aB (CV lT.idem (x:=x) EO fun u ⟨_,t,w,a6,bu,bV⟩ aL=>?_) RX;rw[ny]at a6;cases a6;subst bV;have:=bj.2 ⟨w,bu,aL⟩;rw[aI]at this;cases this
   |true=>refine⟨aB.keys.trans ad,aB.rest,(fun e=>by cases e),fun _ aO ag he=>?_⟩;obtain⟨w,a6,bu⟩:=bj.1 aI;have gi:=((kX aO).2 ⟨ag,he⟩).1;have ao:=Gz hi.sh gi bu;have a8:=(zG aO a6).2 (hi.sh _ _ ny).1;rw[←gi.2 x _ ((pI ab aG cF).2 ⟨ab,cF⟩) ny]at a8;rw[←gi.1 w]at ao;omega
 ·have qq:c.ph y=some ((c.join x y).shp y):=zQ J;by_cases U:(c.join x y).shd x=false
  ·have y6:c.ph x=none:=zP U;have lQ:lI (c.join x y) (iT ρ x y):=⟨lT,gw,CV lT.idem (x:=x) EO fun u ⟨_,t,w,q,_⟩=>by rw[bJ,y6]at q;cases q⟩;obtain⟨N,o,ak,aB⟩:=Tf lQ (x:=x) ((pI ab aG cF).2 ⟨ab,cF⟩) (by rw[ad];exact Cb) y6 (t:=(c.join x y).shp y) (hi.sh _ _ qq).1 (by rw[ad];exact(hi.sh _ _ qq).2.1);refine⟨N,o,fun n aA=>by simp only[qR,if_neg J,if_pos U,ak n aA],aB.keys.trans ad,aB.rest,fun aI=>?_,fun aI aO ag he=>?_⟩
   ·obtain⟨ρ',g1,g2,g3⟩:=aB.yes aI;refine⟨ρ',g1,fun aO=>?_,.inr ?_⟩
    ·rw[g2 aO,←kX aO];refine and_congr_right fun _=>⟨fun h t aN=>by rw[qq]at aN;cases aN;exact h,fun h=>h _ qq⟩
    ·rcases g3 with⟨rfl,g3⟩|g3
     ·have:ia o.2 (iT ρ x y)=ia (c.join x y) (iT ρ x y):=by unfold ia;rw[aB.keys,g3]
      omega
     ·omega
   ·obtain⟨s1,s2⟩:=(kX aO).2 ⟨ag,he⟩;exact aB.no aI aO s1 (s2 _ qq)
  ·have ny:c.ph x=some ((c.join x y).shp x):=zQ U;obtain⟨hy,a,ak,aB,bj⟩:=F9 (x:=x) (c:=c.join x y) (t:=(c.join x y).shp y) lT gw (by rw[ad];exact(hi.sh _ _ qq).2.1);cases aI:a.found with
   |true=>refine⟨hy,(false,a.c),fun n aA=>by simp only[qR,if_neg J,if_neg U,ak n aA,j5,aI,if_true],aB.keys.trans ad,aB.rest,(fun e=>by cases e),fun _ aO ag he=>?_⟩;obtain⟨w,a6,bu⟩:=bj.1 aI;obtain⟨gi,oY⟩:=(kX aO).2 ⟨ag,he⟩;have ao:=Gz hi.sh gi bu;have a8:=(zG aO a6).2 (hi.sh _ _ qq).1;rw[←oY _ qq]at a8;rw[←gi.1 w]at ao;omega
   |false=>
    have Se:a.c.shp x=(c.join x y).shp x:=aB.shp x;obtain⟨iP,b,f1,f2,f3⟩:=F9 (x:=x) (c:=a.c) (t:=(c.join x y).shp x) aB.ru (by rw[aB.keys,aB.ph];exact gw) (by rw[aB.keys,ad];exact(hi.sh _ _ ny).2.1);have e2:=aB.trans f2;cases a7:b.found with
    |true=>refine⟨max hy iP,(false,b.c),fun n aA=>by simp only[qR,if_neg J,if_neg U,ak n (by omega),j5,aI,Se,f1 n (by omega),a7,if_true,gP,if_false],e2.keys.trans ad,e2.rest,(fun e=>by cases e),fun _ aO ag he=>?_⟩;obtain⟨w,a6,bu⟩:=f3.1 a7;obtain⟨gi,_⟩:=(kX aO).2 ⟨ag,he⟩;rw[aB.ph]at bu;have ao:=Gz hi.sh gi bu;have a8:=(zG aO a6).2 (hi.sh _ _ ny).1;rw[←gi.2 x _ ((pI ab aG cF).2 ⟨ab,cF⟩) ny]at a8;rw[←gi.1 w]at ao;omega
    |false=>
     have yZ:lI b.c (iT ρ x y):=by refine⟨e2.ru,by rw[e2.keys,e2.ph];exact gw,?_⟩;rw[e2.ph];refine CV lT.idem (x:=x) EO fun u ⟨_,t,w,a6,bu,bV⟩ aL=>?_;rw[bJ,ny]at a6;cases a6;subst bV;have:=f3.2 ⟨w,bu,by rw[aB.ph];exact aL⟩;rw[a7]at this;cases this
     obtain⟨yg,o,g1,g2⟩:=rec b.c (iT ρ x y) yZ (e2.keys.trans ad) (by rw[wh e2];exact c9) ((c.join x y).shp x) ((c.join x y).shp y) (hi.sh _ _ ny).2.1 (hi.sh _ _ qq).2.1;refine⟨max (max hy iP) yg,o,fun n aA=>?_,g2.keys.trans (e2.keys.trans ad),?_,fun cO=>?_,fun cO aO ag he=>?_⟩
     ·simp only[qR,if_neg J,if_neg U,ak n (by omega),j5,aI,Se,f1 n (by omega),a7,gP,if_false,e2.shp];exact g1 n (by omega)
     ·rw[g2.rest.1,g2.rest.2.1,g2.rest.2.2];exact e2.rest
     ·obtain⟨ρ',a6,bu,bV⟩:=g2.yes cO;refine⟨ρ',a6,fun aO=>?_,.inr ?_⟩
      ·rw[bu aO,e2.ph,bJ,←kX aO];refine and_congr_right fun h=>?_;have:=h.2 x _ ((pI ab aG cF).2 ⟨ab,cF⟩) ny;rw[←this];exact⟨fun h t aN=>by rw[qq]at aN;cases aN;exact h,fun h=>h _ qq⟩
      ·have:ia b.c (iT ρ x y)<ia c ρ:=by rw[wh e2];exact c9
       rcases bV with⟨rfl,bV⟩|bV
       ·have:ia o.2 (iT ρ x y)=ia b.c (iT ρ x y):=by unfold ia;rw[g2.keys,bV]
        omega
       ·omega
     ·obtain⟨s1,s2⟩:=(kX aO).2 ⟨ag,he⟩;refine g2.no cO aO (by rw[e2.ph];exact s1) ?_;have:=s1.2 x _ ((pI ab aG cF).2 ⟨ab,cF⟩) ny;rw[←this];exact s2 _ qq
def ti:T→T→Nat
 | .var _,_=>1
 |_,.var _=>2
 |_,_=>0
theorem Y7(K:Nat):∀(m:Nat) (c:br) (ρ:Int→Int) (a b:T) (kO:Int→T),lI c ρ→jS c.ph ρ kO→(∀w,a.occ w=true→w∈cn c.up)→(∀w,b.occ w=true→w∈cn c.up)→ia c ρ=K→((a.ap kO).size+(b.ap kO).size)*3+ti a b=m→
  ∃N o,(∀n,N≤n→gq n a b c=some o)∧iO c ρ (fun aO=>a.ap aO=b.ap aO) o:=by
 induction K using Nat.strongRecOn with
 |ind K aeQ=>
 have Sn:∀(bI:br) (k6:Int→Int),lI bI k6→ia bI k6<K→∀a b:T,(∀w,a.occ w=true→w∈cn bI.up)→(∀w,b.occ w=true→w∈cn bI.up)→∃N o,(∀n,N≤n→gq n a b bI=some o)∧iO bI k6 (fun aO=>a.ap aO=b.ap aO) o:=by
  intro bI k6 J U a b bF ae;obtain⟨aO,hg⟩:=J.sat
  exact aeQ _ U _ bI k6 a b aO J hg bF ae rfl rfl
 intro m;induction m using Nat.strongRecOn with
 |ind m zl=>
 intro c ρ a b kO hi tJ bF ae c9 hm;have adV:∀{a b:T},(∀n,gq (n+1) a b c=some (decide (a=b),c))→(∀aO,a.ap aO=a)→(∀aO,b.ap aO=b)→∃N o,(∀n,N≤n→gq n a b c=some o)∧iO c ρ (fun aO=>a.ap aO=b.ap aO) o:=by
  intro a b J U ao;refine⟨1,(decide (a=b),c),fun n aA=>?_,rfl,⟨rfl,rfl,rfl⟩,fun h=>?_,fun h aO _ he=>?_⟩
  ·obtain⟨n',rfl⟩:∃n',n=n'+1:=⟨n-1,by omega⟩;exact J n'
  ·simp only[fH]at h;subst h;exact⟨ρ,hi,fun aO=>⟨fun h=>⟨h,rfl⟩,fun h=>h.1⟩,.inl ⟨rfl,rfl⟩⟩
  ·simp only[hE]at h;rw[U,ao]at he;exact h he
 have Ro:∀{a b:T},(∀n,gq (n+1) a b c=some (decide (a=b),c))→(∀aO,a.ap aO≠b.ap aO)→a≠b→∃N o,(∀n,N≤n→gq n a b c=some o)∧iO c ρ (fun aO=>a.ap aO=b.ap aO) o:=by intro a b J U ao;refine⟨1,(false,c),fun n aA=>?_,rfl,⟨rfl,rfl,rfl⟩,(fun h=>by cases h),fun _ aO _ he=>U aO he⟩;obtain⟨n',rfl⟩:∃n',n=n'+1:=⟨n-1,by omega⟩;rw[J n',jH ao]
 have vj:∀(i:Int) (b:T),b.kind≠1→(∀n,gq (n+1) (.var i) b c=(rt c i).bind fun p=>if p.2.shd p.1=false then tP n p.1 b p.2 else gq n (p.2.shp p.1) b p.2)→i∈cn c.up→(∀w,b.occ w=true→w∈cn c.up)→((kO i).size+(b.ap kO).size)*3<m→∃N o,(∀n,N≤n→gq n (.var i) b c=some o)∧iO c ρ (fun aO=>aO i=b.ap aO) o:=by
  intro i b n1 Rr vq ae bC;obtain⟨bI,ak,aT⟩:=sK hi.ru vq;have lQ:=hi.sm aT;by_cases ag:bI.shd (ρ i)=false
  ·obtain⟨N,o,aB,dn⟩:=Tf lQ (x:=ρ i) (hi.ru.idem i) (by rw[aT.keys];exact(hi.ru.mem vq).1) (zP ag) n1 (by rw[aT.keys];exact ae);refine⟨N+1,o,fun n aA=>?_,iO.sm aT (iO.congr (fun aO h=>?_) dn)⟩
   ·obtain⟨n',rfl⟩:∃n',n=n'+1:=⟨n-1,by omega⟩;rw[Rr,ak];simp only[j5,if_pos ag];exact aB n' (by omega)
   ·rw[←h.1 i]
  ·have ny:bI.ph (ρ i)=some (bI.shp (ρ i)):=zQ ag;have kX:∀aO,jS bI.ph ρ aO→aO i=(bI.shp (ρ i)).ap aO:=fun aO h=>by rw[h.1 i];exact h.2 _ _ (hi.ru.idem i) ny
   have hf:=(lQ.sh _ _ ny).1;have ady:ti (bI.shp (ρ i)) b=0:=by cases e:bI.shp (ρ i)<;>cases b<;>simp_all[ti,T.kind]
   have Sl:jS bI.ph ρ kO:=by rw[aT.ph];exact tJ
   obtain⟨N,o,aB,dn⟩:=zl (((bI.shp (ρ i)).ap kO).size*3+(b.ap kO).size*3) (by rw[←kX kO Sl];omega) bI ρ (bI.shp (ρ i)) b kO lQ Sl (lQ.sh _ _ ny).2.1 (by rw[aT.keys];exact ae) (by rw[wh aT];exact c9) (by rw[ady];omega);refine⟨N+1,o,fun n aA=>?_,iO.sm aT (iO.congr (fun aO h=>?_) dn)⟩
   ·obtain⟨n',rfl⟩:∃n',n=n'+1:=⟨n-1,by omega⟩;rw[Rr,ak];simp only[j5,if_neg ag];exact aB n' (by omega)
   ·rw[kX aO h]
 have BW:∀(i j:Int),i∈cn c.up→j∈cn c.up→∃N o,(∀n,N≤n→gq n (.var i) (.var j) c=some o)∧iO c ρ (fun aO=>aO i=aO j) o:=by
  intro i j vq Fe;obtain⟨bI,ak,aT⟩:=sK hi.ru vq;obtain⟨ch,aB,bz⟩:=sK aT.ru (by rw[aT.keys];exact Fe:j∈cn bI.up);have ss:=aT.trans bz;have ht:=hi.sm ss;have u6:ρ i∈cn ch.up:=by rw[ss.keys];exact(hi.ru.mem vq).1
  have RF:ρ j∈cn ch.up:=by rw[ss.keys];exact(hi.ru.mem Fe).1
  have vd:∀(bI:br) (k6:Int→Int),lI bI k6→cn bI.up=cn ch.up→ia bI k6<ia ch ρ→∀a b:T,(∀w,a.occ w=true→w∈cn ch.up)→(∀w,b.occ w=true→w∈cn ch.up)→∃N o,(∀n,N≤n→gq n a b bI=some o)∧iO bI k6 (fun aO=>a.ap aO=b.ap aO) o:=fun dc ρ3 J U ao a b bF ae=>Sn dc ρ3 J (by rw[wh ss,c9]at ao;exact ao) a b (by rw[U];exact bF) (by rw[U];exact ae);rcases Int.lt_trichotomy (ρ i) (ρ j)with h|h|h
  ·obtain⟨N,o,bj,iI⟩:=P5 ht (hi.ru.idem i) (hi.ru.idem j) h u6 RF vd;refine⟨N+1,o,fun n aA=>?_,iO.sm ss (iO.congr (fun aO h=>?_) iI)⟩
   ·obtain⟨n',rfl⟩:∃n',n=n'+1:=⟨n-1,by omega⟩;simp only[gq,ak,aB,j5];rw[if_neg (by omega),if_neg (by omega)];exact bj n' (by omega)
   ·rw[h.1 i,h.1 j]
  ·refine⟨1,(true,ch),fun n aA=>?_,ss.keys,ss.rest,fun _=>⟨ρ,ht,fun aO=>?_,.inl ⟨rfl,ss.ph⟩⟩,fun e=>by cases e⟩
   ·obtain⟨n',rfl⟩:∃n',n=n'+1:=⟨n-1,by omega⟩;simp only[gq,ak,aB,j5,if_pos h]
   ·simp only[ss.ph];exact⟨fun ag=>⟨ag,by rw[ag.1 i,ag.1 j,h]⟩,fun ag=>ag.1⟩
  ·obtain⟨N,o,bj,iI⟩:=P5 ht (hi.ru.idem j) (hi.ru.idem i) h RF u6 vd;refine⟨N+1,o,fun n aA=>?_,iO.sm ss (iO.congr (fun aO h=>?_) iI)⟩
   ·obtain⟨n',rfl⟩:∃n',n=n'+1:=⟨n-1,by omega⟩;simp only[gq,ak,aB,j5];rw[if_neg (by omega),if_pos h];exact bj n' (by omega)
   ·rw[h.1 i,h.1 j];exact⟨Eq.symm,Eq.symm⟩
 have ze:∀(a:T) (j:Int),a.kind≠1→(∀n,gq (n+1) a (.var j) c=gq n (.var j) a c)→(∀n,gq (n+1) (.var j) a c=(rt c j).bind fun p=>if p.2.shd p.1=false then tP n p.1 a p.2 else gq n (p.2.shp p.1) a p.2)→j∈cn c.up→(∀w,a.occ w=true→w∈cn c.up)→((kO j).size+(a.ap kO).size)*3<m→∃N o,(∀n,N≤n→gq n a (.var j) c=some o)∧iO c ρ (fun aO=>a.ap aO=aO j) o:=by intro a j J U ao Fe bF bC;obtain⟨N,o,ak,cM⟩:=vj j a J ao Fe bF bC;refine⟨N+1,o,fun n aA=>?_,iO.congr (fun aO _=>⟨Eq.symm,Eq.symm⟩) cM⟩;obtain⟨n',rfl⟩:∃n',n=n'+1:=⟨n-1,by omega⟩;rw[U];exact ak n' (by omega)
 cases a with
 |var i=>
  have vq:i∈cn c.up:=bF i (by simp[T.occ]);cases b with
  |var j=>exact BW i j vq (ae j (by simp[T.occ]))
  |_=>exact vj i _ (by simp[T.kind]) (fun n=>rfl) vq ae (by simp only[T.ap,ti]at hm⊢;omega)
 |pair bE a2=>
  cases b with
  |var j=>exact ze _ j (by simp[T.kind]) (fun n=>rfl) (fun n=>rfl) (ae j (by simp[T.occ])) bF (by simp only[T.ap,ti]at hm⊢;omega)
  |pair cc b4=>
   have sd:∀p q:T,ti p q≤2:=fun p q=>by cases p<;>cases q<;>simp[ti]
   have kU:∀w,bE.occ w=true→w∈cn c.up:=fun w hw=>bF w (by simp[T.occ,hw]);have pz:∀w,a2.occ w=true→w∈cn c.up:=fun w hw=>bF w (by simp[T.occ,hw]);have lg:∀w,cc.occ w=true→w∈cn c.up:=fun w hw=>ae w (by simp[T.occ,hw]);have oW:∀w,b4.occ w=true→w∈cn c.up:=fun w hw=>ae w (by simp[T.occ,hw]);simp only[T.ap,T.size,ti]at hm;have f1:=sd bE cc;have f2:=sd a2 b4;obtain⟨hy,gK,ak,cM⟩:=zl _ (by rw[←hm];omega) c ρ bE cc kO hi tJ kU lg c9 rfl;obtain⟨agt,bI⟩:=gK;cases agt with
   |false=>refine⟨hy+1,(false,bI),fun n aA=>?_,cM.keys,cM.rest,(fun e=>by cases e),fun _ aO ag he=>cM.no rfl aO ag (by simp only[T.ap,T.pair.injEq]at he;exact he.1)⟩;obtain⟨n',rfl⟩:∃n',n=n'+1:=⟨n-1,by omega⟩;simp only[gq,ak n' (by omega),j5,gP,if_false]
   |true=>
    obtain⟨k6,a6,bu,bV⟩:=cM.yes rfl;simp only at a6 bu bV;have w3:cn bI.up=cn c.up:=cM.keys;have BO:∃iP gB,(∀n,iP≤n→gq n a2 b4 bI=some gB)∧iO bI k6 (fun aO=>a2.ap aO=b4.ap aO) gB:=by
     rcases bV with⟨rfl,bV⟩|bV
     ·exact zl _ (by rw[←hm];omega) bI k6 a2 b4 kO a6 (by rw[bV];exact tJ) (by rw[w3];exact pz) (by rw[w3];exact oW) (by unfold ia;rw[w3,bV];exact c9) rfl
     ·exact Sn bI k6 a6 (by omega) a2 b4 (by rw[w3];exact pz) (by rw[w3];exact oW)
    obtain⟨iP,gB,aB,dn⟩:=BO;refine⟨max hy iP+1,gB,fun n aA=>?_,dn.keys.trans w3,?_,fun aI=>?_,fun aI aO ag he=>?_⟩
    ·obtain⟨n',rfl⟩:∃n',n=n'+1:=⟨n-1,by omega⟩;simp only[gq,ak n' (by omega),j5,if_true];exact aB n' (by omega)
    ·rw[dn.rest.1,dn.rest.2.1,dn.rest.2.2];exact cM.rest
    ·obtain⟨ρ2,s1,s2,s3⟩:=dn.yes aI;refine⟨ρ2,s1,fun aO=>?_,?_⟩
     ·rw[s2 aO,bu aO];simp only[T.ap,T.pair.injEq,and_assoc]
     ·rcases bV with⟨rfl,bV⟩|bV
      ·rcases s3 with⟨rfl,s3⟩|s3
       ·exact .inl ⟨rfl,s3.trans bV⟩
       ·have:ia bI k6=ia c k6:=by unfold ia;rw[w3,bV]
        exact .inr (by omega)
      ·rcases s3 with⟨rfl,s3⟩|s3
       ·have:ia gB.2 ρ2=ia bI ρ2:=by unfold ia;rw[dn.keys,s3]
        exact .inr (by omega)
       ·exact .inr (by omega)
    ·simp only[T.ap,T.pair.injEq]at he;exact dn.no aI aO ((bu aO).2 ⟨ag,he.1⟩) he.2
  |_=>exact Ro (fun n=>rfl) (fun aO=>by simp[T.ap]) (by simp)
 |_=>
  cases b with
  |var j=>exact ze _ j (by simp[T.kind]) (fun n=>rfl) (fun n=>rfl) (ae j (by simp[T.occ])) bF (by simp only[T.ap,ti]at hm⊢;omega)
  |_=>first|exact adV (fun n=>rfl) (fun aO=>rfl) (fun aO=>rfl)|exact Ro (fun n=>rfl) (fun aO=>by simp[T.ap]) (by simp)
end Go.Pv
namespace Go.Pv
open Go
def x8(rec:Int→br→aY (Bool×br))(v:Int)(a:br×Bool):aY (br×Bool):=if a.2=true then(rt a.1 v).bind fun p=>(rec p.1 p.2).map fun q=>(q.2,q.1)else some a
def x0(v:Int)(c:br):aY (Int×br):=(rt c v).map fun p=>(p.2.sz p.1,p.2)
def br.grey(c:br)(x:Int):br:={c with color:=eP x 1 c.color,size:=eP x 1 c.size}
def br.black(c:br)(x:Int):br:={c with color:=eP x 2 c.color}
def pX:Nat→Int→br→aY (Bool×br)
 |0,_,_=>none
 |n+1,x,c=>if c.col x=2 then some (true,c)else if c.col x=1 then some (false,c)else
   if(c.grey x).shd x=false then some (true,(c.grey x).black x)else
   (((c.grey x).shp x).foldO (x8 (pX n)) (c.grey x,true)).bind fun a=>if a.2=false then some (false,a.1)else
   (((a.1.shp x).sizeO x0 a.1).map fun p=>(true,{p.2 with size:=eP x p.1 p.2.size}.black x))
def Ay(rec:Int→br→aY (T×br))(v:Int)(c:br):aY (T×br):=(rt c v).bind fun p=>rec p.1 p.2
def pW:Nat→Int→br→aY (T×br)
 |0,_,_=>none
 |n+1,x,c=>match c0 x c.full with
  |some t=>some (t,c)
  |none=>if c.shd x=false then some (.var x,{c with full:=eP x (.var x) c.full})else
   ((c.shp x).mapO (Ay (pW n)) c).map fun p=>(p.1,{p.2 with full:=eP x p.1 p.2.full})
def rG(n:Nat):List Int→br→List Int→aY (aY (List Int)×br)
 |[],c,out=>some (some out,c)
 |v::bc,c,out=>(rt c v).bind fun p=>(pX n p.1 p.2).bind fun q=>if q.1=false then some (none,q.2)else
   if p.1=v∧q.2.shd p.1=false then rG n bc q.2 out else
   if 5000<q.2.sz p.1∨400<out.length+1 then some (none,q.2)else rG n bc q.2 (out++[v])
def x1(n:Nat):List Int→br→aY (List ar×br)
 |[],c=>some ([],c)
 |v::bc,c=>(rt c v).bind fun p=>(pW n p.1 p.2).bind fun q=>(x1 n bc q.2).map fun r=>(⟨v,q.1⟩::r.1,r.2)
def C0(n:Nat)(bc:List Int)(c:br):aY (aY (List ar)):=(rG n bc c []).bind fun a=>match a.1 with
 |none=>some none
 |some out=>(x1 n out a.2).map fun r=>some r.1
def pq(n:Nat):List (T×T)→br→aY (Bool×br)
 |[],c=>some (true,c)
 |e::es,c=>(zx e.1 c).bind fun bI=>(zx e.2 bI).bind fun ch=>(gq n e.1 e.2 ch).bind fun p=>if p.1=true then pq n es p.2 else some (false,p.2)
theorem lI.rank{c:br}{ρ:Int→Int}(h:lI c ρ):∃r:Int→Nat,∀z u,iN c.ph ρ z u→r u<r z:=by
 obtain⟨aO,hg⟩:=h.sat
 exact⟨fun z=>(aO z).size,fun z u he=>Gy h.sh hg he⟩
structure sZ (V:List Int) (ph:Int→aY T) (ρ:Int→Int) (c:br):Prop where
 ru:jn c.up ρ
 keys:cn c.up=V
 ph:c.ph=ph
theorem sZ.sm{V:List Int}{ph:Int→aY T}{ρ:Int→Int}{c cm:br}(h:sZ V ph ρ c)(k:iw ρ c cm):sZ V ph ρ cm:=⟨k.ru,k.keys.trans h.keys,k.ph.trans h.ph⟩
def cut(n:Nat):Int:=if 5001<(n:Int)then 5001 else n
section
variable {V:List Int} {ph:Int→aY T} {ρ:Int→Int} {r:Int→Nat}
theorem akd(Dl:Int→T):∀(t:T) (c:br),sZ V ph ρ c→(∀w,t.occ w=true→w∈V∧c.sz (ρ w)=cut (Dl w).size)→∃cm,t.sizeO x0 c=some (cut (t.ap Dl).size,cm)∧iw ρ c cm:=by
 intro t;induction t with
 |var v=>
  intro c h aN;obtain⟨aJ,bD⟩:=aN v (by simp[T.occ]);obtain⟨bI,J,U⟩:=sK h.ru (by rw[h.keys];exact aJ:v∈cn c.up);refine⟨bI,?_,U⟩;have:bI.sz (ρ v)=cut (Dl v).size:=by rw[←bD,U.eq];rfl
  simp only[T.sizeO,x0,J,nM,this,T.ap,dG,jj,and_true];unfold cut;split<;>omega
 |pair a b dR dS=>
  intro c h aN;obtain⟨bI,J,aT⟩:=dR c h fun w hw=>aN w (by simp[T.occ,hw]);obtain⟨ch,U,bz⟩:=dS bI (h.sm aT) fun w hw=>⟨(aN w (by simp[T.occ,hw])).1,by rw[←(aN w (by simp[T.occ,hw])).2,aT.eq];rfl⟩;have ae:=T.size_pos (b.ap Dl);simp only[T.sizeO,J,j5,T.ap,T.size];by_cases ax:5000<cut (a.ap Dl).size
  ·rw[if_pos ax];refine⟨bI,?_,aT⟩;simp only[dG,jj,and_true];unfold cut at ax⊢;split at ax<;>split<;>(try split)<;>omega
  ·rw[if_neg ax,U];refine⟨ch,?_,aT.trans bz⟩;simp only[nM,dG,jj,and_true];unfold cut at ax⊢;split at ax<;>(repeat' split)<;>omega
 |_=>intro c h aN;exact⟨c,by simp[T.sizeO,T.ap,T.size,cut],iw.refl h.ru⟩
structure p9 (V:List Int) (ph:Int→aY T) (ρ:Int→Int) (r:Int→Nat) (d:Nat) (c:br):Prop where
 fin:sZ V ph ρ c
 col:∀z,r z<d→c.col z=0∨(c.col z=2∧c.sz z=cut (gI ph ρ r z).size)
structure mG (ph:Int→aY T) (ρ:Int→Int) (r:Int→Nat) (d:Nat) (c cm:br):Prop where
 full:cm.full=c.full
 hi:∀z,d≤r z→cm.col z=c.col z∧cm.sz z=c.sz z
 lo:∀z,c.col z=2→cm.col z=2∧cm.sz z=c.sz z
theorem mG.refl{c:br}{d:Nat}:mG ph ρ r d c c:=⟨rfl,fun _ _=>⟨rfl,rfl⟩,fun _ h=>⟨h,rfl⟩⟩
theorem mG.trans{a b c:br}{d:Nat}(h:mG ph ρ r d a b)(k:mG ph ρ r d b c):mG ph ρ r d a c:=⟨k.full.trans h.full,fun z bD=>⟨(k.hi z bD).1.trans (h.hi z bD).1,(k.hi z bD).2.trans (h.hi z bD).2⟩,fun z bD=>⟨(k.lo z (h.lo z bD).1).1,(k.lo z (h.lo z bD).1).2.trans (h.lo z bD).2⟩⟩
theorem mG.mono{a b:br}{d b8:Nat}(aQ:d≤b8)(h:mG ph ρ r d a b):mG ph ρ r b8 a b:=⟨h.full,fun z bD=>h.hi z (by omega),h.lo⟩
theorem mG.sm{c cm:br}{d:Nat}(k:iw ρ c cm):mG ph ρ r d c cm:=by
 have ak:∀z,cm.col z=c.col z:=fun z=>by rw[k.eq];rfl
 have aB:∀z,cm.sz z=c.sz z:=fun z=>by rw[k.eq];rfl
 exact⟨k.rest.2.2,fun z _=>⟨ak z,aB z⟩,fun z h=>⟨by rw[ak];exact h,aB z⟩⟩
theorem p9.sm{c cm:br}{d:Nat}(h:p9 V ph ρ r d c)(k:iw ρ c cm):p9 V ph ρ r d cm:=by
 have ak:∀z,cm.col z=c.col z:=fun z=>by rw[k.eq];rfl
 have aB:∀z,cm.sz z=c.sz z:=fun z=>by rw[k.eq];rfl
 exact⟨h.fin.sm k,fun z bD=>by rw[ak,aB];exact h.col z bD⟩
theorem amn(gw:nR V ph)(eU:∀v,ρ (ρ v)=ρ v)(aL:∀z u,iN ph ρ z u→r u<r z)(d:Nat):∀(x:Int) (c:br),r x<d→ρ x=x→x∈V→p9 V ph ρ r d c→
  ∃N cm,(∀n,N≤n→pX n x c=some (true,cm))∧p9 V ph ρ r d cm∧mG ph ρ r (r x+1) c cm∧cm.col x=2∧cm.sz x=cut (gI ph ρ r x).size:=by
 induction d using Nat.strongRecOn with
 |ind d bT=>
 intro x c aQ ab jW hw;rcases hw.col x aQ with bA|⟨U,ao⟩;rotate_left
 ·refine⟨1,c,fun n aA=>?_,hw,mG.refl,U,ao⟩;obtain⟨n',rfl⟩:∃n',n=n'+1:=⟨n-1,by omega⟩;simp only[pX,if_pos U]
 have wN:∀z,(c.grey x).col z=if z=x then 1 else c.col z:=fun z=>by simp only[br.grey,br.col,nc];split<;>rfl
 have Bg:∀z,(c.grey x).sz z=if z=x then 1 else c.sz z:=fun z=>by simp only[br.grey,br.sz,nc];split<;>rfl
 have yL:sZ V ph ρ (c.grey x):=⟨hw.fin.ru,hw.fin.keys,hw.fin.ph⟩;have aeI:p9 V ph ρ r (r x) (c.grey x):=⟨yL,fun z bD=>by
  have cF:z≠x:=fun e=>by subst e;omega
  rw[wN,Bg,if_neg cF,if_neg cF];exact hw.col z (by omega)⟩
 have BE:¬c.col x=2:=by omega
 have ra:¬c.col x=1:=by omega
 have fw:∀(e:br) (z:Int),(e.black x).col z=(if z=x then 2 else e.col z):=fun e z=>by simp only[br.black,br.col,nc];split<;>rfl
 by_cases ag:(c.grey x).shd x=false
 ·have jg:ph x=none:=by rw[←yL.ph];exact zP ag
  have a7:gI ph ρ r x= .var x:=by rw[Bf (by rw[ab];exact jg),ab]
  have ef:∀z,((c.grey x).black x).sz z=if z=x then 1 else c.sz z:=Bg
  refine⟨1,(c.grey x).black x,fun n aA=>?_,⟨⟨yL.ru,yL.keys,yL.ph⟩,fun z bD=>?_⟩,⟨rfl,fun z bD=>?_,fun z bD=>?_⟩,?_,?_⟩
  ·obtain⟨n',rfl⟩:∃n',n=n'+1:=⟨n-1,by omega⟩;simp only[pX,if_neg BE,if_neg ra,if_pos ag]
  ·rw[fw,ef,wN];by_cases e:z=x
   ·subst e;simp only[if_true,a7];exact .inr ⟨trivial,by simp[T.size,cut]⟩
   ·simp only[if_neg e];exact hw.col z bD
  ·have e:z≠x:=fun e=>by subst e;omega
   rw[fw,ef,wN];simp only[if_neg e];exact⟨trivial,trivial⟩
  ·have e:z≠x:=fun e=>by subst e;omega
   rw[fw,ef,wN];simp only[if_neg e];exact⟨bD,trivial⟩
  ·rw[fw,if_pos rfl]
  ·rw[ef,if_pos rfl,a7];simp[T.size,cut]
 ·have jg:ph x=some ((c.grey x).shp x):=by rw[←yL.ph];exact zQ ag
  obtain⟨g1,g2,g3⟩:=gw _ _ jg;have adA:∀(t:T) (e:br),(∀w,t.occ w=true→((c.grey x).shp x).occ w=true)→p9 V ph ρ r (r x) e→∃N fJ,(∀n,N≤n→t.foldO (x8 (pX n)) (e,true)=some (fJ,true))∧p9 V ph ρ r (r x) fJ∧mG ph ρ r (r x) e fJ∧∀w,t.occ w=true→fJ.col (ρ w)=2∧fJ.sz (ρ w)=cut (gI ph ρ r w).size:=by
   intro t;induction t with
   |var v=>intro e mT he;have aJ:=g2 v (mT v (by simp[T.occ]));have ve:r (ρ v)<r x:=aL x (ρ v) ⟨ab,_,v,jg,mT v (by simp[T.occ]),rfl⟩;obtain⟨ak,a6,aT⟩:=sK he.fin.ru (by rw[he.fin.keys];exact aJ:v∈cn e.up);obtain⟨N,aB,bu,du,dn,ch,s2⟩:=bT (r x) aQ (ρ v) ak ve (eU v) (by rw[←he.fin.keys];exact(he.fin.ru.mem (by rw[he.fin.keys];exact aJ)).1) (he.sm aT);refine⟨N,aB,fun n aA=>by simp[T.foldO,x8,a6,bu n aA],du,(mG.sm aT).trans (dn.mono (by omega)),fun w hw=>?_⟩;simp[T.occ]at hw;subst hw;exact⟨ch,by rw[s2,←yM eU]⟩
   |pair a b dR dS=>
    intro e mT he;obtain⟨hy,ak,a6,eD,cM,s1⟩:=dR e (fun w hw=>mT w (by simp[T.occ,hw])) he;obtain⟨iP,aB,bu,du,dn,s2⟩:=dS ak (fun w hw=>mT w (by simp[T.occ,hw])) eD;refine⟨max hy iP,aB,fun n aA=>by simp only[T.foldO];rw[a6 n (by omega)];exact bu n (by omega),du,cM.trans dn,fun w hw=>?_⟩;simp only[T.occ,mB]at hw;rcases hw with hw|hw
    ·obtain⟨kN,z2⟩:=s1 w hw;exact⟨(dn.lo _ kN).1,by rw[(dn.lo _ kN).2];exact z2⟩
    ·exact s2 w hw
   |_=>intro e _ he;exact⟨0,e,fun n _=>rfl,he,mG.refl,fun w hw=>by simp[T.occ]at hw⟩
  obtain⟨N,e,a6,eD,cM,s1⟩:=adA ((c.grey x).shp x) (c.grey x) (fun w h=>h) aeI;have aet:e.shp x=(c.grey x).shp x:=by
   have J:e.ph x=some ((c.grey x).shp x):=by rw[eD.fin.ph];exact jg
   unfold br.ph at J;split at J
   ·exact fB J
   ·cases J
  obtain⟨aB,bu,bz⟩:=akd (V:=V) (ph:=ph) (ρ:=ρ) (gI ph ρ r) ((c.grey x).shp x) e eD.fin (fun w hw=>⟨g2 w hw,(s1 w hw).2⟩);have lW:gI ph ρ r x=((c.grey x).shp x).ap (gI ph ρ r):=yN eU aL (by rw[ab];exact jg);have EJ:=cM.trans (mG.sm (ph:=ph) (r:=r) (d:=r x) bz);have du:=eD.sm bz;let bj:br:={aB with size:=eP x (cut (gI ph ρ r x).size) aB.size}.black x
  have dc:∀z,bj.col z=if z=x then 2 else aB.col z:=fun z=>fw _ z
  have s3:∀z,bj.sz z=if z=x then cut (gI ph ρ r x).size else aB.sz z:=fun z=>by show(c0 z (eP x _ aB.size)).getD 0=_;rw[nc];split<;>rfl
  refine⟨N+1,bj,fun n aA=>?_,⟨⟨du.fin.ru,du.fin.keys,du.fin.ph⟩,fun z bD=>?_⟩,⟨EJ.full,fun z bD=>?_,fun z bD=>?_⟩,by rw[dc,if_pos rfl],by rw[s3,if_pos rfl]⟩
  ·obtain⟨n',rfl⟩:∃n',n=n'+1:=⟨n-1,by omega⟩;simp only[pX,if_neg BE,if_neg ra,if_neg ag,a6 n' (by omega),j5,Bool.true_eq_false,if_false,aet,bu,nM,lW,bj]
  ·rw[dc,s3];by_cases nr:z=x
   ·subst nr;simp only[if_true];exact .inr ⟨trivial,trivial⟩
   ·simp only[if_neg nr];by_cases bC:r z<r x
    ·exact du.col z bC
    ·obtain⟨bE,a2⟩:=EJ.hi z (by omega);rw[bE,a2,wN,Bg,if_neg nr,if_neg nr];exact hw.col z bD
  ·have nr:z≠x:=fun e=>by subst e;omega
   obtain⟨bE,a2⟩:=EJ.hi z (by omega);rw[dc,s3,if_neg nr,if_neg nr,bE,a2,wN,Bg,if_neg nr,if_neg nr];exact⟨rfl,rfl⟩
  ·have nr:z≠x:=fun e=>by subst e;omega
   obtain⟨bE,a2⟩:=EJ.lo z (by rw[wN,if_neg nr];exact bD);rw[dc,s3,if_neg nr,if_neg nr,bE,a2,Bg,if_neg nr];exact⟨rfl,rfl⟩
structure qN (V:List Int) (ph:Int→aY T) (ρ:Int→Int) (r:Int→Nat) (c:br):Prop where
 fin:sZ V ph ρ c
 full:∀x t,c0 x c.full=some t→t=gI ph ρ r x
theorem qN.sm{c cm:br}(h:qN V ph ρ r c)(k:iw ρ c cm):qN V ph ρ r cm:=⟨h.fin.sm k,by rw[k.rest.2.2];exact h.full⟩
theorem aml(gw:nR V ph)(eU:∀v,ρ (ρ v)=ρ v)(aL:∀z u,iN ph ρ z u→r u<r z)(d:Nat):∀(x:Int) (c:br),r x<d→ρ x=x→x∈V→qN V ph ρ r c→
  ∃N cm,(∀n,N≤n→pW n x c=some (gI ph ρ r x,cm))∧qN V ph ρ r cm:=by
 induction d with
 |zero=>intro x c h;omega
 |succ d bT=>
 intro x c aQ ab jW aJ;cases aI:c0 x c.full with
 |some t=>refine⟨1,c,fun n aA=>?_,aJ⟩;obtain⟨n',rfl⟩:∃n',n=n'+1:=⟨n-1,by omega⟩;simp only[pW,aI,aJ.full x t aI]
 |none=>
  have R5:∀(e:br),qN V ph ρ r e→qN V ph ρ r {e with full:=eP x (gI ph ρ r x) e.full}:=fun e he=>⟨⟨he.fin.ru,he.fin.keys,he.fin.ph⟩,fun z t bD=>by
   have rk:c0 z (eP x (gI ph ρ r x) e.full)=some t:=bD;rw[nc]at rk;split at rk
   ·rename_i e;subst e;cases rk;rfl
   ·exact he.full z t rk⟩
  by_cases ag:c.shd x=false
  ·have jg:ph x=none:=by rw[←aJ.fin.ph];exact zP ag
   have a7:gI ph ρ r x= .var x:=by rw[Bf (by rw[ab];exact jg),ab]
   refine⟨1,_,fun n aA=>?_,R5 c aJ⟩;obtain⟨n',rfl⟩:∃n',n=n'+1:=⟨n-1,by omega⟩;simp only[pW,aI,if_pos ag,a7]
  ·have jg:ph x=some (c.shp x):=by rw[←aJ.fin.ph];exact zQ ag
   obtain⟨g1,g2,g3⟩:=gw _ _ jg;have adZ:∀(t:T) (e:br),(∀w,t.occ w=true→(c.shp x).occ w=true)→qN V ph ρ r e→∃N fJ,(∀n,N≤n→t.mapO (Ay (pW n)) e=some (t.ap (gI ph ρ r),fJ))∧qN V ph ρ r fJ:=by
    intro t;induction t with
    |var v=>intro e mT he;have vi:=g2 v (mT v (by simp[T.occ]));have ve:r (ρ v)<r x:=aL x (ρ v) ⟨ab,_,v,jg,mT v (by simp[T.occ]),rfl⟩;obtain⟨ak,a6,aT⟩:=sK he.fin.ru (by rw[he.fin.keys];exact vi:v∈cn e.up);obtain⟨N,aB,bu,du⟩:=bT (ρ v) ak (by omega) (eU v) (by rw[←he.fin.keys];exact(he.fin.ru.mem (by rw[he.fin.keys];exact vi)).1) (he.sm aT);exact⟨N,aB,fun n aA=>by simp only[T.mapO,Ay,a6,j5,bu n aA,T.ap];rw[←yM eU],du⟩
    |pair a b dR dS=>intro e mT he;obtain⟨hy,ak,a6,eD⟩:=dR e (fun w hw=>mT w (by simp[T.occ,hw])) he;obtain⟨iP,aB,bu,du⟩:=dS ak (fun w hw=>mT w (by simp[T.occ,hw])) eD;exact⟨max hy iP,aB,fun n aA=>by simp only[T.mapO,a6 n (by omega),j5,bu n (by omega),nM,T.ap],du⟩
    |_=>intro e _ he;exact⟨0,e,fun n _=>rfl,he⟩
   obtain⟨N,e,a6,eD⟩:=adZ (c.shp x) c (fun w h=>h) aJ;have lW:gI ph ρ r x=(c.shp x).ap (gI ph ρ r):=yN eU aL (by rw[ab];exact jg);refine⟨N+1,_,fun n aA=>?_,R5 e eD⟩;obtain⟨n',rfl⟩:∃n',n=n'+1:=⟨n-1,by omega⟩;simp only[pW,aI,if_neg ag,a6 n' (by omega),nM,lW]
def np(ph:Int→aY T)(ρ:Int→Int)(v:Int):Bool:= !(decide (ρ v=v)&&(ph v).isNone)
theorem akg(gw:nR V ph)(eU:∀v,ρ (ρ v)=ρ v)(aL:∀z u,iN ph ρ z u→r u<r z)(jt:∀v∈V,ρ v∈V):∀(bc:List Int) (c:br) (out:List Int),(∀v∈bc,v∈V)→(∀d,p9 V ph ρ r d c)→out.length≤400→(∀v∈out,(gI ph ρ r v).size≤5000)→
  ∃N cm o,(∀n,N≤n→rG n bc c out=some (o,cm))∧sZ V ph ρ cm∧cm.full=c.full∧(∀l,o=some l→l=out++bc.filter (np ph ρ)∧l.length≤400∧∀v∈l,(gI ph ρ r v).size≤5000)∧(o=none→¬((out++bc.filter (np ph ρ)).length≤400∧∀v∈out++bc.filter (np ph ρ),(gI ph ρ r v).size≤5000)):=by
 intro bc;induction bc with
 |nil=>intro c out _ hw J U;exact⟨0,c,some out,fun n _=>rfl,(hw 0).fin,rfl,fun l e=>by cases e;simp;exact⟨J,U⟩,fun e=>by cases e⟩
 |cons v bc bT=>
  intro c out aJ hw J U;have vi:=aJ v (by simp);obtain⟨bI,a6,aT⟩:=sK (hw 0).fin.ru (by rw[(hw 0).fin.keys];exact vi:v∈cn c.up);have ET:∀d,p9 V ph ρ r d bI:=fun d=>(hw d).sm aT;obtain⟨hy,ch,bu,du,dn,aB,s2⟩:=amn gw eU aL (r (ρ v)+1) (ρ v) bI (by omega) (eU v) (jt v vi) (ET _);have oa:∀d,p9 V ph ρ r d ch:=fun d=>⟨du.fin,fun z bD=>by
   by_cases bC:r z<r (ρ v)+1
   ·exact du.col z bC
   ·obtain⟨bE,a2⟩:=dn.hi z (by omega);rw[bE,a2];exact(ET d).col z bD⟩
  have Jb:ch.full=c.full:=dn.full.trans aT.rest.2.2;have Sc:(ch.shd (ρ v)=false)=((ph (ρ v)).isNone=true):=by rw[←du.fin.ph];unfold br.ph;cases ch.shd (ρ v)<;>simp
  have jv:∀n,hy≤n→rG n (v::bc) c out=(if ρ v=v∧ch.shd (ρ v)=false then rG n bc ch out else if 5000<ch.sz (ρ v)∨400<out.length+1 then some (none,ch)else rG n bc ch (out++[v])):=fun n aA=>by simp only[rG,a6,j5,bu n aA,Bool.true_eq_false,if_false]
  have RB:gI ph ρ r (ρ v)=gI ph ρ r v:=(yM eU v).symm;by_cases ax:ρ v=v∧ch.shd (ρ v)=false
  ·have ae:np ph ρ v=false:=by have ao:=ax.2;rw[Sc]at ao;rw[ax.1]at ao;simp[np,ax.1,ao]
   obtain⟨iP,dc,o,bV,f3,pV,G0,iW⟩:=bT ch out (fun w hw=>aJ w (by simp[hw])) oa J U;refine⟨max hy iP,dc,o,fun n aA=>by rw[jv n (by omega),if_pos ax];exact bV n (by omega),f3,pV.trans Jb,?_,?_⟩
   ·simp only[List.filter_cons,ae,gP,if_false];exact G0
   ·simp only[List.filter_cons,ae,gP,if_false];exact iW
  ·have ae:np ph ρ v=true:=by
    cases e:np ph ρ v with
    |true=>rfl
    |false=>simp only[np,Bool.not_eq_false',cA,fH]at e;exact absurd ⟨e.1,by rw[Sc,e.1];exact e.2⟩ ax
   by_cases au:5000<ch.sz (ρ v)∨400<out.length+1
   ·refine⟨hy,ch,none,fun n aA=>by rw[jv n aA,if_neg ax,if_pos au],du.fin,Jb,(fun l e=>by cases e),fun _=>?_⟩;simp only[List.filter_cons,ae,if_true];rintro⟨bE,a2⟩;rcases au with au|au
    ·rw[s2,RB]at au;have:=a2 v (by simp);unfold cut at au;split at au<;>omega
    ·simp at bE;omega
   ·have bD:(gI ph ρ r v).size≤5000:=by have:¬5000<ch.sz (ρ v):=fun h=>au (.inl h);rw[s2,RB]at this;unfold cut at this;split at this<;>omega
    obtain⟨iP,dc,o,bV,f3,pV,G0,iW⟩:=bT ch (out++[v]) (fun w hw=>aJ w (by simp[hw])) oa (by simp;omega) (fun w hw=>by
     rcases kx.1 hw with hw|hw
     ·exact U w hw
     ·simp at hw;subst hw;exact bD)
    refine⟨max hy iP,dc,o,fun n aA=>by rw[jv n (by omega),if_neg ax,if_neg au];exact bV n (by omega),f3,pV.trans Jb,?_,?_⟩
    ·simp only[List.filter_cons,ae,if_true];simpa using G0
    ·simp only[List.filter_cons,ae,if_true];simpa using iW
theorem akh(gw:nR V ph)(eU:∀v,ρ (ρ v)=ρ v)(aL:∀z u,iN ph ρ z u→r u<r z)(jt:∀v∈V,ρ v∈V):∀(bc:List Int) (c:br),(∀v∈bc,v∈V)→qN V ph ρ r c→∃N cm,∀n,N≤n→x1 n bc c=some (bc.map fun v=>⟨v,gI ph ρ r v⟩,cm):=by
 intro bc;induction bc with
 |nil=>intro c _ _;exact⟨0,c,fun n _=>rfl⟩
 |cons v bc bT=>intro c aJ hw;have vi:=aJ v (by simp);obtain⟨bI,a6,aT⟩:=sK hw.fin.ru (by rw[hw.fin.keys];exact vi:v∈cn c.up);obtain⟨hy,ch,bu,du⟩:=aml gw eU aL (r (ρ v)+1) (ρ v) bI (by omega) (eU v) (jt v vi) (hw.sm aT);obtain⟨iP,dc,bV⟩:=bT ch (fun w hw=>aJ w (by simp[hw])) du;refine⟨max hy iP,dc,fun n aA=>?_⟩;simp only[x1,a6,j5,bu n (by omega),bV n (by omega),nM,gE];rw[←yM eU]
end
end Go.Pv
namespace Go.Pv
open Go
def br.new:br:=⟨[],[],[],[],[],[]⟩
def qD(l:List Int):List Int:=l.mergeSort fun x y=>decide (x≤y)
def Ah(n:Nat)(E:List (T×T)):aY (aY (List ar)):=(pq n E br.new).bind fun p=>if p.1=false then some none else C0 n (qD (cn p.2.up)) p.2
theorem C3(l:List Int):(qD l).Perm l:=List.mergeSort_perm l _
theorem akv{l:List Int}(h:l.Nodup):(qD l).Pairwise (· < ·):=by have J:(qD l).Pairwise fun x y=>decide (x≤y)=true:=List.pairwise_mergeSort (fun a b c=>by simp;omega) (fun a b=>by simp;omega) l;have U:(qD l).Pairwise (· ≠ ·):=List.nodup_iff_pairwise_ne.1 ((C3 l).nodup_iff.2 h);exact(J.and U).imp fun h=>by simp at h;omega
structure Xq (c:br) (ρ:Int→Int) (cm:br) (T0:Int→Prop):Prop where
 inv:lI cm ρ
 ph:cm.ph=c.ph
 nd:(cn cm.up).Nodup
 sub:∀v∈cn c.up,v∈cn cm.up
 occ:∀v,T0 v→v∈cn cm.up
 rest:cm.color=c.color∧cm.size=c.size∧cm.full=c.full
 new:∀v∈cn cm.up,v∈cn c.up∨T0 v
theorem TD{ρ:Int→Int}(t:T):∀(c:br),lI c ρ→(cn c.up).Nodup→(∀v,t.occ v=true→0≤v)→∃cm,zx t c=some cm∧Xq c ρ cm fun v=>t.occ v=true:=by
 unfold zx;induction t with
 |var v=>
  intro c hi aA bA;by_cases aJ:v∈cn c.up
  ·obtain⟨bI,a6,aT⟩:=sK hi.ru aJ;refine⟨bI,by simp[T.foldO,a6],hi.sm aT,aT.ph,by rw[aT.keys];exact aA,fun w hw=>by rw[aT.keys];exact hw,fun w hw=>?_,aT.rest,fun w hw=>.inl (by rw[aT.keys]at hw;exact hw)⟩;simp[T.occ]at hw;subst hw;rw[aT.keys];exact aJ
  ·obtain⟨a6,bu,bV⟩:=ajU hi.ru (bA v (by simp[T.occ])) aJ;refine⟨{c with up:=eP v v c.up},by simp only[T.foldO,a6,nM],⟨bu,?_,hi.sat⟩,rfl,?_,fun w hw=>by rw[bV];simp[hw],fun w hw=>?_,⟨rfl,rfl,rfl⟩,fun w hw=>?_⟩
   ·intro x u ab;obtain⟨bE,a2,a3⟩:=hi.sh x u ab;refine⟨bE,fun w hw=>?_,?_⟩
    ·show w∈cn (eP v v c.up);rw[bV];simp[a2 w hw]
    ·show x∈cn (eP v v c.up);rw[bV];simp[a3]
   ·rw[bV];rw[List.nodup_append];exact⟨aA,by simp,fun a bF b ae e=>by simp at ae;subst ae;subst e;exact aJ bF⟩
   ·simp[T.occ]at hw;subst hw;rw[bV];simp
   ·rw[bV]at hw;simp at hw;rcases hw with hw|rfl;exact .inl hw;exact .inr (by simp[T.occ])
 |pair a b dR dS=>
  intro c hi aA bA;obtain⟨bI,a6,m1⟩:=dR c hi aA fun v aJ=>bA v (by simp[T.occ,aJ]);obtain⟨ch,bu,m2⟩:=dS bI m1.inv m1.nd fun v aJ=>bA v (by simp[T.occ,aJ]);refine⟨ch,by simp only[T.foldO,a6,j5,bu],m2.inv,m2.ph.trans m1.ph,m2.nd,fun v aJ=>m2.sub v (m1.sub v aJ),fun v aJ=>?_,?_,fun v aJ=>?_⟩
  ·simp only[T.occ,mB]at aJ;rcases aJ with aJ|aJ
   ·exact m2.sub v (m1.occ v aJ)
   ·exact m2.occ v aJ
  ·rw[m2.rest.1,m2.rest.2.1,m2.rest.2.2];exact m1.rest
  ·rcases m2.new v aJ with h|h
   ·rcases m1.new v h with h|h
    ·exact .inl h
    ·exact .inr (by simp[T.occ,h])
   ·exact .inr (by simp[T.occ,h])
 |_=>intro c hi aA bA;exact⟨c,rfl,hi,rfl,aA,fun v aJ=>aJ,fun v aJ=>by simp[T.occ]at aJ,⟨rfl,rfl,rfl⟩,fun v aJ=>.inl aJ⟩
def KE(E:List (T×T)):Prop:= ∀e∈E,∀v,(e.1.occ v=true∨e.2.occ v=true)→0≤v
theorem A1:∀(E:List (T×T)) (c:br) (ρ:Int→Int),lI c ρ→(cn c.up).Nodup→KE E→∃N o,(∀n,N≤n→pq n E c=some o)∧((o.2.color=c.color∧o.2.size=c.size∧o.2.full=c.full)∧∀v∈cn o.2.up,v∈cn c.up∨ ∃e∈E,e.1.occ v=true∨e.2.occ v=true)∧(o.1=true→∃ρ',lI o.2 ρ'∧(cn o.2.up).Nodup∧∀aO,jS o.2.ph ρ' aO↔jS c.ph ρ aO∧jo E aO)∧(o.1=false→∀aO,jS c.ph ρ aO→¬jo E aO):=by
 intro E;induction E with
 |nil=>intro c ρ hi aA _;exact⟨0,(true,c),fun n _=>rfl,⟨⟨rfl,rfl,rfl⟩,fun v aJ=>.inl aJ⟩,fun _=>⟨ρ,hi,aA,fun aO=>⟨fun h=>⟨h,C2 aO⟩,fun h=>h.1⟩⟩,fun e=>by cases e⟩
 |cons e E bT=>
  intro c ρ hi aA bA;obtain⟨bI,a6,m1⟩:=TD e.1 c hi aA fun v aJ=>bA e (by simp) v (.inl aJ);obtain⟨ch,bu,m2⟩:=TD e.2 bI m1.inv m1.nd fun v aJ=>bA e (by simp) v (.inr aJ);obtain⟨kO,tJ⟩:=m2.inv.sat
  obtain⟨hy,gK,bV,iI⟩:=Y7 _ _ ch ρ e.1 e.2 kO m2.inv tJ (fun w hw=>m2.sub w (m1.occ w hw)) (fun w hw=>m2.occ w hw) rfl rfl;have jg:ch.ph=c.ph:=m2.ph.trans m1.ph;have mh:gK.2.color=c.color∧gK.2.size=c.size∧gK.2.full=c.full:=by rw[iI.rest.1,iI.rest.2.1,iI.rest.2.2,m2.rest.1,m2.rest.2.1,m2.rest.2.2];exact m1.rest
  have ED:∀v∈cn gK.2.up,v∈cn c.up∨e.1.occ v=true∨e.2.occ v=true:=fun v aJ=>by
   rw[iI.keys]at aJ;rcases m2.new v aJ with h|h
   ·rcases m1.new v h with h|h
    ·exact .inl h
    ·exact .inr (.inl h)
   ·exact .inr (.inr h)
  obtain⟨f,dc⟩:=gK;cases f with
  |false=>refine⟨hy,(false,dc),fun n aA=>?_,⟨mh,fun v aJ=>(ED v aJ).imp id fun h=>⟨e,by simp,h⟩⟩,(fun e=>by cases e),fun _ aO ag he=>iI.no rfl aO (by rw[jg];exact ag) (qB.1 he).1⟩;simp only[pq,a6,bu,j5,bV n aA,gP,if_false]
  |true=>
   obtain⟨k6,bE,a2,_⟩:=iI.yes rfl;simp only at bE a2;obtain⟨iP,gB,cc,b4,fD,nS⟩:=bT dc k6 bE (by have:=iI.keys;simp only at this;rw[this];exact m2.nd) fun fJ he=>bA fJ (by simp[he]);refine⟨max hy iP,gB,fun n aA=>?_,?_,fun aI=>?_,fun aI aO ag he=>?_⟩
   ·simp only[pq,a6,bu,j5,bV n (by omega),if_true];exact cc n (by omega)
   ·refine⟨by rw[b4.1.1,b4.1.2.1,b4.1.2.2];exact mh,fun v aJ=>?_⟩;rcases b4.2 v aJ with h|⟨fJ,J,U⟩
    ·exact(ED v h).imp id fun h=>⟨e,by simp,h⟩
    ·exact .inr ⟨fJ,by simp[J],U⟩
   ·obtain⟨ρ2,d1,d2,d3⟩:=fD aI;exact⟨ρ2,d1,d2,fun aO=>by rw[d3 aO,a2 aO,jg,qB,and_assoc]⟩
   ·exact nS aI aO ((a2 aO).2 ⟨by rw[jg];exact ag,(qB.1 he).1⟩) (qB.1 he).2
theorem DC{ph:Int→aY T}{ρ:Int→Int}{v:Int}:np ph ρ v=false↔ρ v=v∧ph v=none:=by simp[np]
theorem Q8{ph:Int→aY T}{ρ:Int→Int}{r:Int→Nat}(eU:∀v,ρ (ρ v)=ρ v):∀(n:Nat) (v w:Int),(mI ph ρ n v).occ w=true→(∀z u,iN ph ρ z u→r u<r z)→r (ρ v)<n→ρ w=w∧ph w=none
 |0,v,w,_,_,h=>by omega
 |n+1,v,w,h,aL,aA=>by
  simp only[mI]at h;cases e:ph (ρ v)with
  |none=>rw[e]at h;simp[T.occ]at h;subst h;exact⟨eU v,e⟩
  |some t=>rw[e]at h;obtain⟨u,J,U⟩:=Cs.1 h;have:=aL (ρ v) (ρ u) ⟨eU v,t,u,e,J,rfl⟩;exact Q8 eU n u w U aL (by omega)
section
variable {V:List Int} {ph:Int→aY T} {ρ:Int→Int} {r:Int→Nat}
def sL(ph:Int→aY T)(ρ:Int→Int)(r:Int→Nat)(V:List Int):List ar:=((qD V).filter (np ph ρ)).map fun v=>⟨v,gI ph ρ r v⟩
theorem LV(aA:V.Nodup):ir (sL ph ρ r V):=by unfold sL;rw[ir,List.pairwise_map];exact((akv aA).filter _)
theorem VP(aA:V.Nodup)(gw:nR V ph)(di:∀v,v∉V→ρ v=v)(v:Int):dh (sL ph ρ r V) v=if np ph ρ v then some (gI ph ρ r v)else none:=by
 by_cases ae:np ph ρ v=true
 ·rw[if_pos ae];have aJ:v∈V:=by
   refine Classical.byContradiction fun h=>?_;have J:=di v h;have U:ph v=none:=by cases e:ph v with
    |none=>rfl
    |some t=>exact absurd (gw v t e).2.2 h
   rw[DC.2 ⟨J,U⟩]at ae;cases ae
  have:(⟨v,gI ph ρ r v⟩:ar)∈sL ph ρ r V:=h8.2 ⟨v,nj.2 ⟨(C3 V).mem_iff.2 aJ,ae⟩,rfl⟩;exact uH (LV aA) this
 ·rw[if_neg ae];refine uI.2 fun b fR e=>?_;obtain⟨u,J,rfl⟩:=h8.1 fR;simp only at e;subst e;exact ae (nj.1 J).2
theorem akj(aA:V.Nodup)(gw:nR V ph)(di:∀v,v∉V→ρ v=v)(eU:∀v,ρ (ρ v)=ρ v)(hle:∀v,ρ v≤v)(aL:∀z u,iN ph ρ z u→r u<r z):fC (sL ph ρ r V):=by
 refine⟨LV aA,fun b ae w hw=>?_,fun b ae w hw=>?_⟩
 ·obtain⟨u,J,rfl⟩:=h8.1 ae;rw[VP aA gw di];have:=Q8 eU _ u w hw aL (by omega);rw[DC.2 this];rfl
 ·obtain⟨u,J,rfl⟩:=h8.1 ae;have oW:=(nj.1 J).2;simp only at hw⊢;cases e:ph (ρ u)with
  |none=>
   rw[Bf e]at hw;cases hw;have U:=hle u;have ao:ρ u≠u:=fun h=>by rw[DC.2 ⟨h,by rw[h]at e;exact e⟩]at oW;cases oW
   omega
  |some t=>rw[yN eU aL e]at hw;have:=(gw _ _ e).1;cases t<;>simp[T.ap,T.kind]at hw this
theorem acW(eU:∀v,ρ (ρ v)=ρ v)(aL:∀z u,iN ph ρ z u→r u<r z)(aO:Int→T):jS ph ρ aO↔∀v,aO v=(gI ph ρ r v).ap aO:=by
 constructor
 ·intro h;have:∀(n:Nat) (v:Int),r (ρ v)<n→aO v=(gI ph ρ r v).ap aO:=by
   intro n;induction n with
   |zero=>intro v h;omega
   |succ n bT=>
    intro v aJ;cases e:ph (ρ v)with
    |none=>rw[Bf e];exact h.1 v
    |some t=>rw[yN eU aL e,AM,h.1 v,h.2 _ t (eU v) e];refine tc fun w hw=>bT w ?_;have:=aL (ρ v) (ρ w) ⟨eU v,t,w,e,hw,rfl⟩;omega
  exact fun v=>this _ v (Nat.lt_succ_self _)
 ·intro h;refine⟨fun v=>by rw[h v,h (ρ v),←yM eU],fun x t ab aN=>?_⟩;rw[h x,yN eU aL (by rw[ab];exact aN),AM];exact tc fun w _=>(h w).symm
theorem aki(aA:V.Nodup)(gw:nR V ph)(di:∀v,v∉V→ρ v=v)(eU:∀v,ρ (ρ v)=ρ v)(aL:∀z u,iN ph ρ z u→r u<r z)(aO:Int→T):gH (sL ph ρ r V) aO↔jS ph ρ aO:=by
 rw[acW eU aL,akp (LV aA)];refine forall_congr' fun v=>?_;rw[cB,VP aA gw di];cases e:np ph ρ v with
 |true=>simp
 |false=>obtain⟨J,U⟩:=DC.1 e;rw[Bf (by rw[J];exact U),J];simp
end
theorem akq(E:List (T×T))(bA:KE E):∃n o,Ah n E=some o∧ix [] E o∧∀c,pq n E br.new=some (true,c)→(cn c.up).Nodup∧(∀v∈cn c.up,∃e∈E,e.1.occ v=true∨e.2.occ v=true)∧c.size=[]:=by
 have hi:lI br.new id:=⟨⟨fun v u h=>by simp[br.new,c0]at h,fun v _=>rfl⟩,fun x t h=>by simp[br.new,br.ph,br.shd,c0]at h,⟨.var,fun v=>rfl,fun x t _ h=>by simp[br.new,br.ph,br.shd,c0]at h⟩⟩;have tu:∀aO,jS br.new.ph id aO:=fun aO=>⟨fun v=>rfl,fun x t _ h=>by simp[br.new,br.ph,br.shd,c0]at h⟩;obtain⟨hy,gK,a6,cM,dn,iI⟩:=A1 E br.new id hi (by simp[br.new,cn]) bA;obtain⟨cM,Uw⟩:=cM;obtain⟨f,c⟩:=gK;cases f with
 |false=>refine⟨hy,none,by simp[Ah,a6 hy (eR _)],Dy fun aO _ he=>iI rfl aO (tu aO) he,fun c h=>?_⟩;rw[a6 hy (eR _)]at h;cases h
 |true=>
  obtain⟨ρ,bE,a2,a3⟩:=dn rfl;simp only at bE a2 a3 cM Uw;have Rw:∀n,hy≤n→∀cm,pq n E br.new=some (true,cm)→(cn cm.up).Nodup∧(∀v∈cn cm.up,∃e∈E,e.1.occ v=true∨e.2.occ v=true)∧cm.size=[]:=fun n aA cm h=>by rw[a6 n aA]at h;cases h;exact⟨a2,fun v aJ=>(Uw v aJ).resolve_left (by simp[br.new,cn]),cM.2.1⟩
  obtain⟨r,aL⟩:=bE.rank;have eU:=bE.ru.idem;have jt:∀v∈cn c.up,ρ v∈cn c.up:=fun v aJ=>(bE.ru.mem aJ).1;have dD:sZ (cn c.up) c.ph ρ c:=⟨bE.ru,rfl,rfl⟩;have hw:∀d,p9 (cn c.up) c.ph ρ r d c:=fun d=>⟨dD,fun z _=>.inl (by simp[br.col,cM.1,br.new,c0])⟩;obtain⟨iP,ch,o,cc,b4,fD,nS,Ng⟩:=akg bE.sh eU aL jt (qD (cn c.up)) c [] (fun v aJ=>(C3 _).mem_iff.1 aJ) hw (by simp) (fun v aJ=>by simp at aJ);have dC:=akj (r:=r) a2 bE.sh bE.ru.no eU bE.ru.le aL;have kX:∀aO,gH (sL c.ph ρ r (cn c.up)) aO↔gH [] aO∧jo E aO:=fun aO=>by rw[aki a2 bE.sh bE.ru.no eU aL,a3 aO];exact⟨fun h=>⟨fun b ae=>by simp at ae,h.2⟩,fun h=>⟨tu aO,h.2⟩⟩
  have Ry:hn (sL c.ph ρ r (cn c.up))↔(([]++(qD (cn c.up)).filter (np c.ph ρ)).length≤400∧∀v∈[]++(qD (cn c.up)).filter (np c.ph ρ),(gI c.ph ρ r v).size≤5000):=by unfold hn sL;simp only[List.length_map,bX,h8,forall_exists_index,and_imp,forall_apply_eq_imp_iff₂]
  cases o with
  |none=>refine⟨max hy iP,none,by simp[Ah,a6 (max hy iP) (by omega),C0,cc (max hy iP) (by omega)],?_,Rw _ (by omega)⟩;exact fun ai J U ao=>Ng rfl (Ry.1 (QA dC J (fun aO hg=>(kX aO).2 (U aO hg)) ao))
  |some l=>
   obtain⟨ak,aB,bj⟩:=nS l rfl;have aeF:qN (cn c.up) c.ph ρ r ch:=⟨b4,fun x t h=>by rw[fD,cM.2.2]at h;simp[br.new,c0]at h⟩;simp only[bX]at ak;obtain⟨yg,dc,d1⟩:=akh bE.sh eU aL jt l ch (fun v aJ=>by rw[ak]at aJ;exact(C3 _).mem_iff.1 (nj.1 aJ).1) aeF;refine⟨max (max hy iP) yg,some (sL c.ph ρ r (cn c.up)),?_,⟨⟨dC,Ry.2 ?_⟩,kX⟩,Rw _ (by omega)⟩
   ·simp only[Ah,a6 (max (max hy iP) yg) (by omega),j5,Bool.true_eq_false,if_false,C0,cc (max (max hy iP) yg) (by omega),d1 (max (max hy iP) yg) (by omega),nM];rw[ak];rfl
   ·rw[bX,←ak];exact⟨aB,bj⟩
def hz(s:List ar):List (T×T):=s.map fun b=>(.var b.v,b.t)
theorem ako{s:List ar}{aO:Int→T}:jo (hz s) aO↔gH s aO:=by simp[jo,hz,gH,T.ap]
theorem XA{s:List ar}{E:List (T×T)}{o:aY (List ar)}:ix [] (hz s++E) o↔ix s E o:=by
 have h:∀aO,(gH [] aO∧jo (hz s++E) aO)↔(gH s aO∧jo E aO):=fun aO=>by rw[C1,ako];exact⟨fun h=>h.2,fun h=>⟨fun b ae=>by simp at ae,h⟩⟩
 exact⟨AK h,AK fun aO=>(h aO).symm⟩
end Go.Pv
namespace Go.Pv
open Go
open Classical in
noncomputable def mgu(s:List ar)(E:List (T×T)):aY (List ar):=if h:∃o,ix s E o then h.choose else none
theorem rv{s:List ar}{E:List (T×T)}{o:aY (List ar)}(h:ix s E o):mgu s E=o:=by have ab:∃o,ix s E o:=⟨o,h⟩;unfold mgu;rw[dif_pos ab];exact XB ab.choose_spec h
def pT(s:List ar):Prop:= ∀b∈s,(0≤b.v∧b.v≤100000)∧b.t.ok=true
theorem M9{aO:Int→T}{t:T}(aN:t.ok=true)(h:∀v,t.occ v=true→(aO v).ok=true):(t.ap aO).ok=true:=by
 induction t with
 |var n=>exact h n (by simp[T.occ])
 |pair a b dR dS=>simp only[T.ok,cA]at aN;simp only[T.ap,T.ok,cA];exact⟨dR aN.1 fun v aJ=>h v (by simp[T.occ,aJ]),dS aN.2 fun v aJ=>h v (by simp[T.occ,aJ])⟩
 |_=>exact aN
theorem v8{t:T}(aN:t.ok=true){v:Int}(h:t.occ v=true):0≤v∧v≤100000:=by
 induction t with
 |var n=>simp[T.occ]at h;subst h;simpa[T.ok]using aN
 |pair a b dR dS=>
  simp only[T.ok,cA]at aN;simp only[T.occ,mB]at h;rcases h with h|h
  ·exact dR aN.1 h
  ·exact dS aN.2 h
 |_=>simp[T.occ]at h
theorem Gt{s:List ar}(ag:pT s){t:T}(aN:t.ok=true):(t.ap (cB s)).ok=true:=M9 aN fun v aJ=>by
 unfold cB;cases e:dh s v with
 |none=>have:=v8 aN aJ;simpa[T.ok]using this
 |some x=>exact(ag _ (jT e)).2
theorem AP{s:List ar}(ag:pT s){v:Int}{t:T}(aJ:0≤v∧v≤100000)(aN:t.ok=true){ai:List ar}(h:nn s v t=some ai):pT ai:=by
 unfold nn at h;split at h
 ·cases h;intro b ae;rcases pO.1 ae with rfl|⟨c,ax,rfl⟩
  ·exact⟨aJ,Gt ag aN⟩
  ·refine⟨(ag c ax).1,M9 (ag c ax).2 fun w hw=>?_⟩;unfold one;split
   ·exact Gt ag aN
   ·have:=v8 (ag c ax).2 hw;simpa[T.ok]using this
 ·cases h
theorem W1{s:List ar}(ag:pT s){t:T}(aN:t.ok=true):(ha s t).ok=true:=by
 cases t with
 |var n=>have:=Gt ag aN;simpa[ha,T.ap]using this
 |_=>exact aN
theorem Mi:∀(n:Nat) (s:List ar) (a b:T) (ai:List ar),pT s→a.ok=true→b.ok=true→kt n s a b=some (some ai)→pT ai
 |0,_,_,_,_,_,_,_,h=>by simp[kt]at h
 |n+1,s,a,b,ai,ag,bF,ae,h=>by
  have ab:=W1 ag bF;have aG:=W1 ag ae;simp only[kt]at h;generalize ha s a=x at h ab;generalize ha s b=y at h aG;have vj:∀{i:Int},(T.var i).ok=true→0≤i∧i≤100000:=fun h=>v8 h (by simp[T.occ]);cases x with
  |var i=>
   cases y with
   |var j=>
    simp only[jQ,dG]at h;split at h
    ·exact AP ag (vj aG) ab h
    ·split at h
     ·cases h;exact ag
     ·exact AP ag (vj ab) aG h
   |_=>simp only[jQ,dG]at h;exact AP ag (vj ab) aG h
  |pair bE a2=>
   cases y with
   |var j=>simp only[jQ,dG]at h;exact AP ag (vj aG) ab h
   |pair cc b4=>
    simp only[T.ok,cA]at ab aG;simp only[jQ]at h;split at h
    ·cases h
    ·cases h
    ·rename_i s1 ak;exact Mi n s1 a2 b4 ai (Mi n s bE cc s1 ag ab.1 aG.1 ak) ab.2 aG.2 h
   |_=>simp[jQ]at h
  |_=>
   cases y with
   |var j=>simp only[jQ,dG]at h;exact AP ag (vj aG) ab h
   |_=>
    simp only[jQ,dG]at h;split at h
    ·cases h;exact ag
    ·cases h
def ng:T→List Int
 | .var n=>[n]
 | .pair a b=>ng a++ng b
 |_=>[]
theorem xz{t:T}{v:Int}(h:t.occ v=true):v∈ng t:=by
 induction t with
 |var n=>simp[T.occ]at h;subst h;simp[ng]
 |pair a b dR dS=>simp only[T.occ,mB]at h;simp only[ng,kx];exact h.imp dR dS
 |_=>simp[T.occ]at h
theorem GK{s:List ar}(ag:fC s)(aI:hn s)(a b:T):∃n o,kt n s a b=some o∧ix s [(a,b)] o:=by obtain⟨n,o,J,U⟩:=Wl (s.flatMap (fun b=>b.v::ng b.t)++ng a++ng b) _ _ s a b ag aI (fun c ax=>⟨by simp only[kx,List.mem_flatMap];exact .inl (.inl ⟨c,ax,by simp⟩),fun w hw=>by simp only[kx,List.mem_flatMap];exact .inl (.inl ⟨c,ax,by simp[xz hw]⟩)⟩) (fun w hw=>by simp[xz hw]) (fun w hw=>by simp[xz hw]) rfl rfl;exact⟨n,o,J,U.1⟩
theorem MY{s:List ar}{e:T×T}{E:List (T×T)}{s1:List ar}(h:ix s [e] (some s1)){o:aY (List ar)}(U:ix s1 E o):ix s (e::E) o:=MX (E:=[e]) h U
theorem Fx{s:List ar}(ag:fC s)(aI:hn s)(E:List (T×T)):ix s E (mgu s E):=by
 induction E generalizing s with
 |nil=>rw[rv (Hf ag aI)];exact Hf ag aI
 |cons e E bT=>
  obtain⟨n,o,_,U⟩:=GK ag aI e.1 e.2;cases o with
  |none=>have ao:ix s (e::E) none:=He E U;rw[rv ao];exact ao
  |some s1=>have ao:=MY U (bT U.1.1 U.1.2);rw[rv ao];exact ao
theorem Ku{s:List ar}(ag:fC s)(aI:hn s):mgu s []=some s:=rv (Hf ag aI)
theorem Kt{s:List ar}(ag:fC s)(aI:hn s)(e:T×T)(E:List (T×T)):mgu s (e::E)=match mgu s [e]with|some s1=>mgu s1 E|none=>none:=by
 have J:=Fx ag aI [e];cases h:mgu s [e]with
 |none=>rw[h]at J;have ao:ix s (e::E) none:=He E J;exact rv ao
 |some s1=>rw[h]at J;exact rv (MY J (Fx J.1.1 J.1.2 E))
theorem zy{s:List ar}(ag:fC s)(aI:hn s){E:List (T×T)}{ai:List ar}(h:mgu s E=some ai):fC ai∧hn ai:=by have J:=Fx ag aI E;rw[h]at J;exact J.1
theorem af4{s:List ar}(ag:fC s)(aI:hn s)(aw:pT s){E:List (T×T)}(dw:∀e∈E,e.1.ok=true∧e.2.ok=true){ai:List ar}(h:mgu s E=some ai):pT ai:=by
 induction E generalizing s with
 |nil=>rw[Ku ag aI]at h;cases h;exact aw
 |cons e E bT=>
  rw[Kt ag aI]at h;split at h
  ·rename_i s1 J;obtain⟨n,o,U,ao⟩:=GK ag aI e.1 e.2;have a8:=rv ao;rw[J]at a8;subst a8;exact bT ao.1.1 ao.1.2 (Mi n s e.1 e.2 s1 aw (dw e (by simp)).1 (dw e (by simp)).2 U) (fun fJ he=>dw fJ (by simp[he])) h
  ·cases h
theorem SV{l:List Int}(aA:l.Nodup)(h:∀v∈l,0≤v∧v≤100000):l.length≤100001:=by
 have J:(l.map Int.toNat).Nodup:=by rw[List.nodup_iff_pairwise_ne,List.pairwise_map];exact amA (fun{a b} bF ae cF e=>cF (by have:=h a bF;have:=h b ae;omega)) aA
 have:=MK J (l₂:=List.range 100001) (fun x ab=>by obtain⟨v,aJ,rfl⟩:=h8.1 ab;have:=h v aJ;simp;omega)
 simpa using this
end Go.Pv
