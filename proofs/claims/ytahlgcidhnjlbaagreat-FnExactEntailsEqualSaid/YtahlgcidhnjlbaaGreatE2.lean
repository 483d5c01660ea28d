/- The most general unifier within the limits. -/
import Derived.Deep.LoopGhost
import Derived.Test.YtahlgcidhnjlbaaGreatE1
set_option linter.all false
set_option maxHeartbeats 4000000
open Array renaming getElem?_toList→ta
open Bool renaming and_eq_true→cz,false_eq_true→gP,not_eq_true'→rW,or_eq_true→mB
open Decidable renaming not_not→ash
open Go renaming Program→cB,TypeId→fT
open Go.IntKind renaming bits→nN,signed→rX,u64→hc,wrap→rY
open Go.IntWalk renaming i64_in→oO
open Go.Op renaming bytesLess→hl
open Go.Region renaming wanted→oP
open Go.Result renaming andThen_ok→fJ
open Go.Sem renaming run_bind→fC,run_pure→gk
open Go.Value renaming cells→po
open List renaming all_eq_true→jc,cons_append→bT,drop_eq_getElem_cons→la,getElem?_eq_getElem→cf,getElem?_eq_none→p7,getElem?_eq_some_iff→fN,length_append→pq,length_cons→p8,map_cons→gG,map_nil→mC,mem_append→jU,mem_cons→fU,mem_cons_of_mem→ps,mem_filter→mD,mem_map→h8,nil_append→bY,pairwise_cons→mE,pairwise_iff_getElem→pt
open List.Nodup renaming length_le_of_subset→M9
open List.Pairwise renaming imp_of_mem→am3,nil→asp
open List.Perm renaming eq_of_pairwise→Na
open List.cons renaming injEq→p6
open Nat renaming le_refl→eR,le_trans→jV
open Ne renaming symm→kR
open Option renaming bind_some→kS,getD_none→kB,getD_some→j9,isSome_iff_exists→fD,isSome_none→jW,map_eq_some_iff→gH,map_some→nQ
open Option.some renaming inj→fh,injEq→dG
open Prod.mk renaming injEq→jm
open _root_ renaming False→eo,UInt8→dB,beq_iff_eq→dL,congrArg→e7,decide_eq_false→jn,decide_eq_false_iff_not→hE,decide_eq_true_eq→fE
namespace Go.Pv
open Go Go.RowKit
def agS(A:de)(s ai:cI)(rm:Option aH):Prop:=(∀k,(look k ai.b).isSome→(look k s.b).isSome∨rm=some k)∧(∀k,(look k ai.e).isSome→(look k s.e).isSome∨rm=some k)∧(∀k,(look k s.b).isSome→(look k ai.b).isSome)∧(∀k,(look k s.e).isSome→(look k ai.e).isSome)∧
 (∀k,rm=some k→(∃j,k= .obj j)∧A.F k∧A.b k=none∧A.e k=none∧((look k ai.b).isSome∨(look k ai.e).isSome))
def XJ(P:cB)(n:Nat)(args:List ah)(A:de)(d:Option Nat)(x:kC):Prop:=
 ∃s ai r rm,(∀k cs,look k s.b=some cs→A.b k=some cs∧aJ (inObs s) cs)∧(∀k o,look k s.e=some o→A.e k=some o∧dP (inObs s) o)∧ij s∧ij ai∧agS A s ai rm∧aJ (inObs s) args∧
  bN P n args s (fun eJ dJ=>eJ=r∧dJ=ai)∧x=⟨d,r,ai.b,ai.e,rm⟩
def XK(P:cB)(n0 n:Nat)(args:List ah)(A:de)(d:Option Nat)(x:kC):Prop:=
 ∃cG r,d=some cG∧(A.F (.loc (n0+cG))∧A.b (.loc (n0+cG))=none∧A.e (.loc (n0+cG))=none)∧aJ (fun _=>eo) args∧
  Hi P n (n0+cG) args ⟨[],[]⟩ (fun eJ dJ=>eJ=r∧dJ=⟨[],[]⟩)∧x=⟨d,r,[],[],some (.loc (n0+cG))⟩
def xu:ah→Bool
 | .ptr (.loc _) _=>true
 | .eptr _=>true
 |_=>false
def fO.isB:fO→Bool
 | .loadB _ _ _=>true
 | .mgetB _ _ _ _ _=>true
 |_=>false
def fO.ptrOf(t:Nat→ah):fO→ah
 | .load _ _ x=>dv t x
 | .loadB _ _ x=>dv t x
 |_=>.junk
def ep(P:cB)(q:Bool)(n0:Nat):eb→de→kC→Prop
 | .s (.v d i),A,x=> ∃c p,pn A.t A.b A.e i=some (c,p)∧c∧(i.isLoad=true→i.isB=true∨q=true∨xu (i.ptrOf A.t)=true)∧x=⟨some d,p,[],[],none⟩
 | .s (.box d none v),A,x=>(A.F (.loc (n0+d))∧A.b (.loc (n0+d))=none∧A.e (.loc (n0+d))=none)∧dX (dv A.t v)=true∧x=⟨some d,.ptr (.loc (n0+d)) 0,[(.loc (n0+d),cells (dv A.t v))],[],some (.loc (n0+d))⟩
 | .s (.alloc d none z),A,x=>(A.F (.loc (n0+d))∧A.b (.loc (n0+d))=none∧A.e (.loc (n0+d))=none)∧x=⟨some d,.ptr (.loc (n0+d)) 0,[(.loc (n0+d),cells z)],[],some (.loc (n0+d))⟩
 | .s (.store sz u v),A,x=> ∃k off cs,dv A.t u= .ptr k off∧A.b k=some cs∧(hN cs=true∧dX (dv A.t v)=true∧(cells (dv A.t v)).length=sz∧off+sz≤cs.length)∧x=⟨none,.junk,[(k,nH cs off (cells (dv A.t v)))],[],none⟩
 | .s (.bsl d sz el xs),A,x=>(A.F (.loc (n0+d))∧A.b (.loc (n0+d))=none∧A.e (.loc (n0+d))=none)∧r6 sz (xs.map (dv A.t))∧x=⟨some d,.slice sz (.own (.loc (n0+d))) (xs.map (dv A.t)),[],[(.loc (n0+d),⟨xs.length,el,sz,none⟩)],some (.loc (n0+d))⟩
 | .s (.app d sz el u v),A,x=> ∃tag xs kM ys,dv A.t u= .slice sz tag xs∧dv A.t v= .slice sz kM ys∧
   ((∃k o,tag= .own k∧A.e k=some o∧(o.xs=none∧o.n=xs.length∧o.el=el∧o.sz=sz∧xs.length+ys.length≤lim)∧x=⟨some d,.slice sz (.own k) (xs++ys),[],[(k,⟨xs.length+ys.length,el,sz,none⟩)],none⟩)∨
    (tag= .nil∧ys.length≤lim∧(A.F (.loc (n0+d))∧A.b (.loc (n0+d))=none∧A.e (.loc (n0+d))=none)∧x=⟨some d,.slice sz (.own (.loc (n0+d))) ys,[],[(.loc (n0+d),⟨ys.length,el,sz,none⟩)],some (.loc (n0+d))⟩))
 | .s (.appm d _ sz el u v),A,x=> ∃k n xs kM ys,dv A.t u= .row sz k n∧dv A.t v= .slice sz kM ys∧A.e k=some ⟨n,el,sz,some xs⟩∧xs.length+ys.length≤lim∧x=⟨some d,.row sz k (xs.length+ys.length),[],[(k,⟨xs.length+ys.length,el,sz,some (xs++ys)⟩)],none⟩
 | .s (.storeE sz u v),A,x=> ∃k n i f el dF xs q,dv A.t u= .rptr dF k n i f∧A.e k=some ⟨n,el,dF,some xs⟩∧xs[i]? =some q∧(dX q=true∧dX (dv A.t v)=true∧(cells (dv A.t v)).length=sz∧f+sz≤(cells q).length∧0<sz)∧x=⟨none,.junk,[],[(k,⟨n,el,dF,some (xs.set i (my q f (cells (dv A.t v))))⟩)],none⟩
 | .s (.mkmap d (some m)),A,x=>(A.F (.obj m)∧A.b (.obj m)=none∧A.e (.obj m)=none)∧x=⟨some d,.gmap (.obj m),[(.obj m,[.hdm 0 []])],[],some (.obj m)⟩
 | .s (.mput b9 u k v),A,x=> ∃m cs cs',dv A.t u= .gmap m∧A.b m=some cs∧ov b9 (dv A.t k) (dv A.t v) cs=some cs'∧x=⟨none,.junk,[(m,cs')],[],none⟩
 | .call d f xs,A,x=> ∃n dp,dv A.t f= .func n dp∧((XJ P n (cR (xs.map (dv A.t)++dp)) A d x∧(q=true→x.bw=[]∧x.ew=[]))∨XK P n0 n (cR (xs.map (dv A.t)++dp)) A d x)
 |_,_,_=>eo
inductive AM where
 |v|l|n|s|w|a|c|m|r|k
 deriving DecidableEq
def eb.mode:eb→AM
 | .s (.v _ (.loadB _ _ _))=>.m
 | .s (.v _ (.mgetB _ _ _ _ _))=>.m
 | .s (.v _ i)=>if i.isLoad then .l else .v
 | .s (.storeE _ _ _)=>.r
 | .s (.box _ _ _)=>.n
 | .s (.alloc _ _ _)=>.n
 | .s (.store _ _ _)=>.w
 | .s (.bsl _ _ _ _)=>.s
 | .s (.app _ _ _ _ _)=>.a
 | .s (.bslm _ _ _ _ _)=>.w
 | .s (.mks _ _ _ _ _ _)=>.w
 | .s (.appm _ _ _ _ _ _)=>.r
 | .s (.mkmap _ _)=>.k
 | .s (.mput _ _ _ _)=>.w
 | .s (.range _ _ _)=>.w
 | .call _ _ _=>.c
 | .next _ _=>.w
structure Hs (q:Bool) (n0:Nat) (m:AM) (dst:Option Nat) (A:de) (x:kC):Prop where
 d:x.d=dst
 b:∀k,(look k x.bw).isSome→(m= .n∧∃d,dst=some d∧k= .loc (n0+d)∧A.b k=none∧A.e k=none)∨m= .w∨(m= .c∧(∃j,k= .obj j)∧q=false)∨(m= .k∧(∃j,k= .obj j)∧A.b k=none∧A.e k=none)
 e:∀k,(look k x.ew).isSome→(m= .s∧∃d,dst=some d∧k= .loc (n0+d)∧A.b k=none∧A.e k=none)∨(m= .a∧(A.e k≠none∨ ∃d,dst=some d∧k= .loc (n0+d)∧A.b k=none∧A.e k=none))∨(m= .c∧(∃j,k= .obj j)∧q=false)∨(m= .r∧∃o,A.e k=some o∧o.xs≠none)
 r:∀k,x.rm=some k→(∃d,dst=some d∧k= .loc (n0+d))∨((m= .c∨m= .k)∧(∃j,k= .obj j)∧((look k x.bw).isSome∨(look k x.ew).isSome))
 ex:m= .a→∀k o,(look k x.ew).isSome→A.e k=some o→o.xs=none
 xn:m= .a∨m= .s→∀k o,look k x.ew=some o→o.xs=none
theorem sJ{α:Type}{k bL:aH}{x:α}(h:(look k [(bL,x)]).isSome):k=bL:=by
 simp only[look]at h;split at h
 ·rename_i e;exact e.symm
 ·cases h
theorem Kw{k bL:aH}{n el sz:Nat}{o:fF}(h:look k [(bL,(⟨n,el,sz,none⟩:fF))]=some o):o.xs=none:=by
 simp only[look]at h;split at h
 ·cases h;rfl
 ·cases h
theorem WM{P:cB}{q:Bool}{n0:Nat}{i:eb}{A:de}{x:kC}(h:ep P q n0 i A x):Hs q n0 i.mode i.dst A x:=by
 cases i with
 |s i=>
  cases i with
  |v d i=>simp only[ep]at h;obtain⟨c,p,_,_,_,rfl⟩:=h;exact⟨rfl,fun k ad=>by simp[look]at ad,fun k ad=>by simp[look]at ad,fun k ad=>by simp at ad,fun _ k o ad=>by simp[look]at ad,fun _ k o ad=>by simp[look]at ad⟩
  |box d key v=>
   cases key with
   |some m=>simp only[ep]at h
   |none=>simp only[ep]at h;obtain⟨⟨_,U,ao⟩,_,rfl⟩:=h;exact⟨rfl,fun k ad=>by obtain rfl:=sJ ad;exact .inl ⟨rfl,d,rfl,rfl,U,ao⟩,fun k ad=>by simp[look]at ad,fun k ad=>by simp at ad;exact .inl ⟨d,rfl,ad.symm⟩,fun _ k o ad=>by simp[look]at ad,fun _ k o ad=>by simp[look]at ad⟩
  |alloc d key z=>
   cases key with
   |some m=>simp only[ep]at h
   |none=>simp only[ep]at h;obtain⟨⟨_,U,ao⟩,rfl⟩:=h;exact⟨rfl,fun k ad=>by obtain rfl:=sJ ad;exact .inl ⟨rfl,d,rfl,rfl,U,ao⟩,fun k ad=>by simp[look]at ad,fun k ad=>by simp at ad;exact .inl ⟨d,rfl,ad.symm⟩,fun _ k o ad=>by simp[look]at ad,fun _ k o ad=>by simp[look]at ad⟩
  |store sz u v=>simp only[ep]at h;obtain⟨k,off,cs,_,_,_,rfl⟩:=h;exact⟨rfl,fun k ad=>.inr (.inl rfl),fun k ad=>by simp[look]at ad,fun k ad=>by simp at ad,fun _ k o ad=>by simp[look]at ad,fun _ k o ad=>by simp[look]at ad⟩
  |bsl d sz el xs=>simp only[ep]at h;obtain⟨⟨_,U,ao⟩,_,rfl⟩:=h;exact⟨rfl,fun k ad=>by simp[look]at ad,fun k ad=>by obtain rfl:=sJ ad;exact .inl ⟨rfl,d,rfl,rfl,U,ao⟩,fun k ad=>by simp at ad;exact .inl ⟨d,rfl,ad.symm⟩,fun e=>by simp[eb.mode]at e,fun _ k o ad=>Kw ad⟩
  |app d sz el u v=>
   simp only[ep]at h;obtain⟨tag,xs,kM,ys,_,_,h⟩:=h;rcases h with⟨k,o,_,J,⟨hJ,_⟩,rfl⟩|⟨_,_,⟨_,U,ao⟩,rfl⟩
   ·exact⟨rfl,fun k ad=>by simp[look]at ad,fun k ad=>by obtain rfl:=sJ ad;exact .inr (.inl ⟨rfl,.inl (by rw[J];simp)⟩),fun k ad=>by simp at ad,fun _ bL o' ad av=>by obtain rfl:=sJ ad;rw[J]at av;cases av;exact hJ,fun _ k o ad=>Kw ad⟩
   ·exact⟨rfl,fun k ad=>by simp[look]at ad,fun k ad=>by obtain rfl:=sJ ad;exact .inr (.inl ⟨rfl,.inr ⟨d,rfl,rfl,U,ao⟩⟩),fun k ad=>by simp at ad;exact .inl ⟨d,rfl,ad.symm⟩,fun _ bL o' ad av=>(by obtain rfl:=sJ ad;rw[ao]at av;cases av),fun _ k o ad=>Kw ad⟩
  |bslm d key sz el xs=>simp only[ep]at h
  |mks d key sz el z x=>simp only[ep]at h
  |appm d key sz el u v=>simp only[ep]at h;obtain⟨k,n,xs,kM,ys,_,_,J,_,rfl⟩:=h;exact⟨rfl,fun k ad=>by simp[look]at ad,fun k ad=>by obtain rfl:=sJ ad;exact .inr (.inr (.inr ⟨rfl,_,J,by simp⟩)),fun k ad=>by simp at ad,fun e=>by simp[eb.mode]at e,fun e=>by simp[eb.mode]at e⟩
  |storeE sz u v=>simp only[ep]at h;obtain⟨k,n,i,f,el,dF,xs,q,_,J,_,_,rfl⟩:=h;exact⟨rfl,fun k ad=>by simp[look]at ad,fun k ad=>by obtain rfl:=sJ ad;exact .inr (.inr (.inr ⟨rfl,_,J,by simp⟩)),fun k ad=>by simp at ad,fun e=>by simp[eb.mode]at e,fun e=>by simp[eb.mode]at e⟩
  |mkmap d key=>
   cases key with
   |none=>simp only[ep]at h
   |some m=>simp only[ep]at h;obtain⟨⟨_,U,ao⟩,rfl⟩:=h;exact⟨rfl,fun k ad=>by obtain rfl:=sJ ad;exact .inr (.inr (.inr ⟨rfl,⟨m,rfl⟩,U,ao⟩)),fun k ad=>by simp[look]at ad,fun k ad=>by simp at ad;subst ad;exact .inr ⟨.inr rfl,⟨m,rfl⟩,.inl (by simp[look])⟩,fun e=>by simp[eb.mode]at e,fun e=>by simp[eb.mode]at e⟩
  |mput b9 x k v=>simp only[ep]at h;obtain⟨m,cs,cs',_,_,_,rfl⟩:=h;exact⟨rfl,fun k ad=>.inr (.inl rfl),fun k ad=>by simp[look]at ad,fun k ad=>by simp at ad,fun e=>by simp[eb.mode]at e,fun e=>by simp[eb.mode]at e⟩
  |range d key x=>simp only[ep]at h
 |next d x=>simp only[ep]at h
 |call d f xs=>
  simp only[ep]at h;obtain⟨n,dp,_,h⟩:=h;rcases h with⟨⟨s,ai,r,rm,_,_,_,av,Sk,_,_,rfl⟩,bn⟩|⟨cG,r,rfl,_,_,_,rfl⟩;rotate_left
  ·exact⟨rfl,fun k ad=>by simp[look]at ad,fun k ad=>by simp[look]at ad,fun k ad=>by simp at ad;exact .inl ⟨cG,rfl,ad.symm⟩,fun _ k o ad=>by simp[look]at ad,fun _ k o ad=>by simp[look]at ad⟩
  refine⟨rfl,fun k ad=>.inr (.inr (.inl ⟨rfl,?_,?_⟩)),fun k ad=>.inr (.inr (.inl ⟨rfl,?_,?_⟩)),fun k ad=>.inr ⟨.inl rfl,(Sk.2.2.2.2 k ad).1,(Sk.2.2.2.2 k ad).2.2.2.2⟩,fun e=>by simp[eb.mode]at e,fun e=>by simp[eb.mode]at e⟩
  ·cases k with
   |loc m=>rw[av.1 m]at ad;cases ad
   |obj m=>exact⟨m,rfl⟩
  ·cases q with
   |false=>rfl
   |true=>rw[(bn rfl).1]at ad;simp[look]at ad
  ·cases k with
   |loc m=>rw[av.2 m]at ad;cases ad
   |obj m=>exact⟨m,rfl⟩
  ·cases q with
   |false=>rfl
   |true=>rw[(bn rfl).2]at ad;simp[look]at ad
theorem Ng{P:cB}{q:Bool}{n0:Nat}{i:eb}{A gf:de}{x:kC}(h:ep P q n0 i A x)(aN:qe i.looks A.t gf.t)
  (au:i.mode= .l→∀k,(q=true∨ ∃m,k= .loc m)→A.b k≠none→gf.b k=A.b k) (R9:i.mode= .m→∀k,A.b k≠none→gf.b k=A.b k)
  (kY:i.mode= .l→q=true→∀k o,A.e k=some o→o.xs≠none→gf.e k=some o)
  (aw:∀d,i.dst=some d→(i.mode= .n∨i.mode= .s∨i.mode= .a∨i.mode= .c)→(A.F (.loc (n0+d))∧A.b (.loc (n0+d))=none∧A.e (.loc (n0+d))=none)→(gf.F (.loc (n0+d))∧gf.b (.loc (n0+d))=none∧gf.e (.loc (n0+d))=none))
  (bE:i.mode= .a→∀k o,A.e k=some o→gf.e k=some o) (hw:i.mode= .w→∀k,gf.b k=A.b k) (afc:i.mode= .k→∀m,(A.F (.obj m)∧A.b (.obj m)=none∧A.e (.obj m)=none)→(gf.F (.obj m)∧gf.b (.obj m)=none∧gf.e (.obj m)=none)) (BX:i.mode= .r→∀k o,A.e k=some o→o.xs≠none→gf.e k=some o)
  (ay:i.mode= .c→∀m,gf.b (.obj m)=A.b (.obj m)∧gf.e (.obj m)=A.e (.obj m)∧(A.F (.obj m)→gf.F (.obj m))):ep P q n0 i gf x:=by
 cases i with
 |s i=>
  cases i with
  |v d i=>
   simp only[ep]at h⊢;obtain⟨c,p,J,U,ao,a8⟩:=h;by_cases kF:∃agg sz y,i= .loadB agg sz y
   ·obtain⟨agg,sz,y,rfl⟩:=kF;simp only[eb.looks,ek.looks,fO.looks]at aN;have tI:=gn aN;refine⟨c,p,?_,U,fun _=>.inl rfl,a8⟩;rw[←J];simp only[pn,←tI];have hm:=R9 (by simp[eb.mode]);simp only[pn]at J;cases bI:dv A.t y<;>simp only[rz];rename_i key off;rw[bI]at J;simp only[rz]at J;cases ae:A.b key with
    |none=>simp[ae]at J
    |some cs=>have:gf.b key=A.b key:=hm key (by rw[ae];simp);rw[this,ae]
   by_cases EA:∃b9 zero ok y z,i= .mgetB b9 zero ok y z
   ·obtain⟨b9,zero,ok,y,z,rfl⟩:=EA;simp only[eb.looks,ek.looks,fO.looks]at aN;obtain⟨t1,t2⟩:=kc aN;refine⟨c,p,?_,U,fun _=>.inl rfl,a8⟩;simp only[pn]at J⊢;rw[←gn t1,←gn t2];exact T8 (R9 (by simp[eb.mode])) J
   replace ao:i.isLoad=true→q=true∨xu (i.ptrOf A.t)=true:=fun nB=>(ao nB).resolve_left (fun ae=>by cases i<;>simp[fO.isB]at ae;exact kF ⟨_,_,_,rfl⟩;exact EA ⟨_,_,_,_,_,rfl⟩);have aev:i.isLoad=true→(eb.s (.v d i)).mode= .l:=by intro nB;cases i<;>simp only[fO.isLoad]at nB<;>first|(cases nB;done)|(simp[eb.mode,fO.isLoad];done)|exact absurd ⟨_,_,_,rfl⟩ kF|exact absurd ⟨_,_,_,_,_,rfl⟩ EA
   by_cases nB:i.isLoad=true
   ·have bn:∀(bI:xu (i.ptrOf A.t)=false),∀k,A.b k≠none→gf.b k=A.b k:=fun bI k ad=>au (aev nB) k (.inl ((ao nB).resolve_right (by rw[bI];simp))) ad;cases i<;>simp only[fO.isLoad]at nB<;>try(cases nB;done)
    case mget b9 zero ok y z=>simp only[eb.looks,ek.looks,fO.looks]at aN;obtain⟨t1,t2⟩:=kc aN;refine⟨c,p,?_,U,fun _=>.inr (ao rfl),a8⟩;simp only[pn]at J⊢;rw[←gn t1,←gn t2];exact T8 (bn rfl) J
    case ment y=>simp only[eb.looks,ek.looks,fO.looks]at aN;refine⟨c,p,?_,U,fun _=>.inr (ao rfl),a8⟩;simp only[pn]at J⊢;rw[←gn aN];exact ago (bn rfl) J
    case mlen y=>simp only[eb.looks,ek.looks,fO.looks]at aN;refine⟨c,p,?_,U,fun _=>.inr (ao rfl),a8⟩;simp only[pn]at J⊢;rw[←gn aN];exact agH (bn rfl) J
    case loadB agg sz y=>exact absurd ⟨_,_,_,rfl⟩ kF
    case mgetB=>exact absurd ⟨_,_,_,_,_,rfl⟩ EA
    rename_i agg sz y;simp only[eb.looks,ek.looks,fO.looks]at aN;have tI:=gn aN;refine⟨c,p,?_,U,fun _=>.inr (by have:=ao rfl;simpa only[fO.ptrOf,←tI]using this),a8⟩;rw[←J];simp only[pn,←tI];have hm:=au (by simp[eb.mode,fO.isLoad]);simp only[pn]at J;have sg:=ao rfl;simp only[fO.ptrOf]at sg;cases bI:dv A.t y<;>simp only[rz]
    ·rename_i key off;rw[bI]at J sg;simp only[rz]at J;cases ae:A.b key with
     |none=>simp[ae]at J
     |some cs=>have:gf.b key=A.b key:=hm key (by rcases sg with h|h;exact .inl h;cases key;exact .inr ⟨_,rfl⟩;simp[xu]at h) (by rw[ae];simp);rw[this,ae]
    ·rename_i dF key n i f;rw[bI]at J sg;simp only[rz]at J;have aeN:q=true:=sg.resolve_right (by simp[xu]);unfold x1 at J;split at J
     ·rename_i n' el jb xs he;rw[he,kY (by simp[eb.mode,fO.isLoad]) aeN key _ he (by simp)]
     ·cases J
   ·have nB:i.isLoad=false:=by simpa using nB
    refine⟨c,p,?_,U,(fun e=>by rw[nB]at e;cases e),a8⟩;rw[←J];exact(alp (by simpa only[eb.looks,ek.looks]using aN) nB).symm
  |box d key v=>
   cases key with
   |some m=>simp only[ep]at h
   |none=>simp only[ep,eb.looks,ek.looks]at h aN⊢;obtain⟨J,U,ao⟩:=h;rw[←gn aN];exact⟨aw d rfl (.inl rfl) J,U,ao⟩
  |alloc d key z=>
   cases key with
   |some m=>simp only[ep]at h
   |none=>simp only[ep]at h⊢;exact⟨aw d rfl (.inl rfl) h.1,h.2⟩
  |store sz u v=>simp only[ep,eb.looks,ek.looks]at h aN⊢;obtain⟨J,U⟩:=kc aN;rw[←gn J,←gn U];obtain⟨k,off,cs,g1,g2,g3,g4⟩:=h;exact⟨k,off,cs,g1,by rw[hw rfl];exact g2,g3,g4⟩
  |bsl d sz el xs=>simp only[ep,eb.looks,ek.looks]at h aN⊢;rw[←FG aN];exact⟨aw d rfl (.inr (.inl rfl)) h.1,h.2⟩
  |app d sz el u v=>
   simp only[ep,eb.looks,ek.looks]at h aN⊢;obtain⟨J,U⟩:=kc aN;rw[←gn J,←gn U];obtain⟨tag,xs,kM,ys,g1,g2,h⟩:=h;refine⟨tag,xs,kM,ys,g1,g2,?_⟩;rcases h with⟨k,o,ak,aB,bf⟩|⟨ak,aB,bf,dd⟩
   ·exact .inl ⟨k,o,ak,bE rfl k o aB,bf⟩
   ·exact .inr ⟨ak,aB,aw d rfl (.inr (.inr (.inl rfl))) bf,dd⟩
  |bslm d key sz el xs=>simp only[ep]at h
  |mks d key sz el z x=>simp only[ep]at h
  |appm d key sz el u v=>simp only[ep,eb.looks,ek.looks]at h aN⊢;obtain⟨J,U⟩:=kc aN;rw[←gn J,←gn U];obtain⟨k,n,xs,kM,ys,g1,g2,g3,g4,g5⟩:=h;exact⟨k,n,xs,kM,ys,g1,g2,BX rfl k _ g3 (by simp),g4,g5⟩
  |storeE sz u v=>simp only[ep,eb.looks,ek.looks]at h aN⊢;obtain⟨J,U⟩:=kc aN;rw[←gn J,←gn U];obtain⟨k,n,i,f,el,dF,xs,q,g1,g2,g3⟩:=h;exact⟨k,n,i,f,el,dF,xs,q,g1,BX rfl k _ g2 (by simp),g3⟩
  |mkmap d key=>
   cases key with
   |none=>simp only[ep]at h
   |some m=>simp only[ep]at h⊢;exact⟨afc rfl m h.1,h.2⟩
  |mput b9 u k v=>simp only[ep,eb.looks,ek.looks]at h aN⊢;obtain⟨t1,t3⟩:=kc aN;obtain⟨t1,t2⟩:=kc t1;obtain⟨m,cs,cs',g1,g2,g3,g4⟩:=h;rw[←gn t1,←gn t2,←gn t3];exact⟨m,cs,cs',g1,by rw[hw rfl];exact g2,g3,g4⟩
  |range d key x=>simp only[ep]at h
 |next d x=>simp only[ep]at h
 |call d f xs=>
  simp only[ep,eb.looks]at h aN⊢;obtain⟨J,U⟩:=kc aN;rw[←gn J,←FG U];obtain⟨n,dp,g1,h⟩:=h;rcases h with⟨⟨s,ai,r,rm,bH,cj,da,ie,lM,oW⟩,g3⟩|⟨cG,r,rfl,bH,cj⟩;rotate_left
  ·exact⟨n,dp,g1,.inr ⟨cG,r,rfl,aw cG rfl (.inr (.inr (.inr rfl))) bH,cj⟩⟩
  refine⟨n,dp,g1,.inl ⟨⟨s,ai,r,rm,fun k cs ad=>?_,fun k o ad=>?_,da,ie,⟨lM.1,lM.2.1,lM.2.2.1,lM.2.2.2.1,fun k ad=>?_⟩,oW⟩,g3⟩⟩
  ·cases k with
   |loc m=>rw[da.1 m]at ad;cases ad
   |obj m=>rw[(ay rfl m).1];exact bH _ _ ad
  ·cases k with
   |loc m=>rw[da.2 m]at ad;cases ad
   |obj m=>rw[(ay rfl m).2.1];exact cj _ _ ad
  ·obtain⟨⟨j,rfl⟩,d2,d3,d4,d5⟩:=lM.2.2.2.2 k ad;exact⟨⟨j,rfl⟩,(ay rfl j).2.2 d2,by rw[(ay rfl j).1];exact d3,by rw[(ay rfl j).2.1];exact d4,d5⟩
def k6(d:Option Nat):kC:=⟨d,.tuple [],[],[],none⟩
def kD(P:cB)(q:Bool)(n0:Nat)(g:c5)(A:de)(x:kC):Prop:=
 match g.g with
 |none=>ep P q n0 g.i A x
 |some (s,w)=>match A.t s with
  | .bool b=>(b=w∧ep P q n0 g.i A x)∨(b= !w∧x=k6 g.i.dst)
  | .tuple []=>x=k6 g.i.dst
  |_=>eo
def e5:AM→AM→Bool
 | .v,_=>true
 |_,.v=>true
 | .l,.l| .l,.n| .l,.s| .l,.a| .l,.c=>true
 | .n,.n| .n,.s| .n,.a| .n,.c=>true
 | .s,.l| .s,.n| .s,.s| .s,.c=>true
 | .a,.l| .a,.n| .a,.s=>true
 | .c,.l| .c,.n| .c,.s=>true
 | .l,.m| .m,.l| .m,.m| .m,.n| .m,.s| .m,.a| .s,.m| .a,.m=>true
 | .l,.k| .m,.k| .n,.k| .s,.k=>true
 | .m,.r| .r,.m| .r,.n| .r,.s| .n,.r| .s,.r| .r,.w| .w,.r=>true
 |_,_=>false
def yR(g h:c5):Bool:=(match g.i.dst with|some d=> !(h.looks.contains d)&&h.i.dst !=some d|none=>true)&&(match h.i.dst with|some d=> !(g.looks.contains d)|none=>true)&&e5 g.i.mode h.i.mode
theorem WN(q:Bool)(n0:Nat)(m:AM)(d:Option Nat)(A:de):Hs q n0 m d A (k6 d):=⟨rfl,fun k ad=>by simp[k6,look]at ad,fun k ad=>by simp[k6,look]at ad,fun k ad=>by simp[k6]at ad,fun _ k o ad=>by simp[k6,look]at ad,fun _ k o ad=>by simp[k6,look]at ad⟩
theorem MA{P:cB}{q:Bool}{n0:Nat}{g:c5}{A:de}{x:kC}(h:kD P q n0 g A x):Hs q n0 g.i.mode g.i.dst A x:=by
 unfold kD at h;split at h
 ·exact WM h
 ·split at h
  ·rcases h with⟨_,h⟩|⟨_,rfl⟩
   ·exact WM h
   ·exact WN _ _ _ _ _
  ·subst h;exact WN _ _ _ _ _
  ·exact h.elim
theorem sb{A:de}{x:kC}{k:aH}(h:look k x.bw=none):(A.do x).b k=A.b k:=by simp[de.do,ig,h]
theorem sc{A:de}{x:kC}{k:aH}(h:look k x.ew=none):(A.do x).e k=A.e k:=by simp[de.do,ig,h]
theorem Ig{A:de}{x:kC}{k:aH}(h:(A.do x).b k=none):A.b k=none:=by
 simp only[de.do,ig]at h;split at h
 ·cases h
 ·exact h
theorem Ih{A:de}{x:kC}{k:aH}(h:(A.do x).e k=none):A.e k=none:=by
 simp only[de.do,ig]at h;split at h
 ·cases h
 ·exact h
theorem lB{α:Type}{o:Option α}(h:¬o.isSome):o=none:=by cases o<;>simp at h⊢
theorem Ni{P:cB}{q:Bool}{n0:Nat}{g:c5}{A gf:de}{x:kC}(h:kD P q n0 g A x)(aN:qe g.looks A.t gf.t)(hm:ep P q n0 g.i A x→ep P q n0 g.i gf x):kD P q n0 g gf x:=by
 unfold kD at h⊢;cases a1:g.g with
 |none=>simp only[a1]at h⊢;exact hm h
 |some x9=>
  obtain⟨s,w⟩:=x9;have:A.t s=gf.t s:=aN s (by simp[c5.looks,a1]);simp only[a1,this]at h⊢;split at h
  ·rcases h with⟨J,U⟩|h
   ·exact .inl ⟨J,hm U⟩
   ·exact .inr h
  ·exact h
  ·exact h
theorem swap{P:cB}{q:Bool}{n0:Nat}{g h:c5}(RY:yR g h=true){A:de}{x y:kC}(ab:kD P q n0 g A x)(aG:kD P q n0 h (A.do x) y):
  kD P q n0 h A y∧kD P q n0 g (A.do y) x∧x.apart y:=by
 simp only[yR,cz]at RY;obtain⟨⟨fm,eN⟩,hm⟩:=RY;have yc:=MA ab;have cF:∀d b8,g.i.dst=some d→h.i.dst=some b8→d≠b8:=by intro d b8 ak aB e;simp only[ak,cz,bne_iff_ne]at fm;exact fm.2 (by rw[aB,e])
 have EC:qe h.looks (A.do x).t A.t:=by intro i hi;simp only[de.do];rw[if_neg];intro e;rw[yc.d]at e;simp only[e,cz,rW,List.contains_eq_mem,hE]at fm;exact fm.1 hi
 have qu:∀k,(look k x.bw).isSome→_:=yc.b;have hle:∀k,(look k x.ew).isSome→_:=yc.e;have Ti:kD P q n0 h A y:=by
  refine Ni aG EC fun jJ=>Ng jJ (fun i hi=>EC i (by simp[c5.looks,hi])) (fun e k ad ae=>?_) (fun e k ae=>?_) (fun e bn k o av hJ=>?_) (fun d aQ Sh lp=>?_) (fun e k o av=>?_) (fun e k=>?_) (fun e m lp=>⟨lp.1.1,Ig lp.2.1,Ih lp.2.2⟩) (fun e k o av hJ=>?_) (fun e m=>?_)
  ·rw[sb (lB fun ag=>?_)];rcases qu k ag with⟨ak,_⟩|ak|⟨ak,⟨j,aB⟩,bf⟩|⟨ak,_⟩;rotate_left 3
   ·rw[e,ak]at hm;simp[e5]at hm
   ·rw[e,ak]at hm;simp[e5]at hm
   ·rw[e,ak]at hm;simp[e5]at hm
   ·rcases ad with ad|⟨m,ad⟩
    ·rw[ad]at bf;cases bf
    ·rw[ad]at aB;cases aB
  ·rw[sb (lB fun ag=>?_)];rcases qu k ag with⟨ak,_⟩|ak|⟨ak,_⟩|⟨ak,_⟩<;>(rw[e,ak]at hm;simp[e5]at hm)
  ·rw[e]at hm;cases hx:look k x.ew with
   |none=>rw[sc hx]at av;exact av
   |some o'=>
    exfalso;have JE:(A.do x).e k=some o':=by simp[de.do,ig,hx]
    rw[JE]at av;cases av;rcases hle k (by simp[hx])with⟨ak,_⟩|⟨ak,_⟩|⟨ak,_,bf⟩|⟨ak,_⟩
    ·exact hJ (yc.xn (.inr ak) k _ hx)
    ·exact hJ (yc.xn (.inl ak) k _ hx)
    ·rw[bn]at bf;cases bf
    ·rw[ak]at hm;simp[e5]at hm
  ·exact⟨lp.1.1,Ig lp.2.1,Ih lp.2.2⟩
  ·rw[sc (lB fun ag=>?_)]at av
   ·exact av
   ·rw[e]at hm;rcases hle k ag with⟨ak,_⟩|⟨ak,_⟩|⟨ak,_⟩|⟨ak,_⟩<;>(rw[ak]at hm;simp[e5]at hm)
  ·rw[sb (lB fun ag=>?_)];rw[e]at hm;rcases qu k ag with⟨ak,_⟩|ak|⟨ak,_⟩|⟨ak,_⟩<;>(rw[ak]at hm;simp[e5]at hm)
  ·rw[e]at hm;cases hx:look k x.ew with
   |none=>rw[sc hx]at av;exact av
   |some o'=>
    exfalso;have JE:(A.do x).e k=some o':=by simp[de.do,ig,hx]
    rw[JE]at av;cases av;rcases hle k (by simp[hx])with⟨ak,_⟩|⟨ak,_⟩|⟨ak,_⟩|⟨ak,_⟩
    ·exact hJ (yc.xn (.inr ak) k _ hx)
    ·rw[ak]at hm;simp[e5]at hm
    ·rw[ak]at hm;simp[e5]at hm
    ·rw[ak]at hm;simp[e5]at hm
  ·rw[e]at hm;refine⟨?_,?_,fun gg=>gg.1⟩
   ·rw[sb (lB fun ag=>?_)];rcases qu _ ag with⟨ak,d,_,aB,_⟩|ak|⟨ak,_⟩|⟨ak,_⟩;rotate_left 3
    ·rw[ak]at hm;simp[e5]at hm
    ·cases aB
    ·rw[ak]at hm;simp[e5]at hm
    ·rw[ak]at hm;simp[e5]at hm
   ·rw[sc (lB fun ag=>?_)];rcases hle _ ag with⟨ak,d,_,aB,_⟩|⟨ak,_⟩|⟨ak,_⟩|⟨ak,_⟩
    ·cases aB
    ·rw[ak]at hm;simp[e5]at hm
    ·rw[ak]at hm;simp[e5]at hm
    ·rw[ak]at hm;simp[e5]at hm
 have ty:=MA Ti;have RF:qe g.looks A.t (A.do y).t:=by intro i hi;simp only[de.do];rw[if_neg];intro e;rw[ty.d]at e;simp only[e,rW,List.contains_eq_mem,hE]at eN;exact eN hi
 refine⟨Ti,?_,?_⟩
 ·refine Ni ab RF fun jJ=>Ng jJ (fun i hi=>RF i (by simp[c5.looks,hi])) (fun e k ad ae=>?_) (fun e k ae=>?_) (fun e bn k o av hJ=>?_) (fun d aQ Sh lp=>?_) (fun e k o av=>?_) (fun e k=>?_) (fun e m lp=>?_) (fun e k o av hJ=>?_) (fun e m=>?_)
  ·refine sb (lB fun ag=>?_);rcases ty.b k ag with⟨ak,d,_,_,aB,_⟩|ak|⟨ak,⟨j,aB⟩,bf⟩|⟨_,_,aB,_⟩;rotate_left 3
   ·exact ae aB
   ·exact ae aB
   ·rw[e,ak]at hm;simp[e5]at hm
   ·rcases ad with ad|⟨m,ad⟩
    ·rw[ad]at bf;cases bf
    ·rw[ad]at aB;cases aB
  ·refine sb (lB fun ag=>?_);rcases ty.b k ag with⟨ak,d,_,_,aB,_⟩|ak|⟨ak,_⟩|⟨_,_,aB,_⟩;rotate_left 3
   ·exact ae aB
   ·exact ae aB
   ·rw[e,ak]at hm;simp[e5]at hm
   ·rw[e,ak]at hm;simp[e5]at hm
  ·rw[sc (lB fun ag=>?_)]
   ·exact av
   ·rcases ty.e k ag with⟨ak,d,_,_,_,aB⟩|⟨ak,aB⟩|⟨ak,_,bf⟩|⟨ak,_⟩
    ·rw[aB]at av;cases av
    ·exact hJ (ty.ex ak k o ag av)
    ·rw[bn]at bf;cases bf
    ·rw[e,ak]at hm;simp[e5]at hm
  ·refine⟨⟨lp.1,fun ql=>?_⟩,?_,?_⟩
   ·rcases ty.r _ ql with⟨b8,ak,aB⟩|⟨_,⟨j,aB⟩,_⟩
    ·simp only[aH.loc.injEq]at aB;exact cF d b8 aQ ak (by omega)
    ·cases aB
   ·rw[sb (lB fun ag=>?_)]
    ·exact lp.2.1
    ·rcases ty.b _ ag with⟨ak,b8,aB,bf,_⟩|ak|⟨ak,⟨j,aB⟩,_⟩|⟨ak,⟨j,aB⟩,_⟩;rotate_left 3
     ·cases aB
     ·simp only[aH.loc.injEq]at bf;exact cF d b8 aQ aB (by omega)
     ·rcases Sh with aB|aB|aB|aB<;>(rw[ak,aB]at hm;simp[e5]at hm)
     ·cases aB
   ·rw[sc (lB fun ag=>?_)]
    ·exact lp.2.2
    ·rcases ty.e _ ag with⟨ak,b8,aB,bf,_⟩|⟨ak,aB⟩|⟨ak,⟨j,aB⟩,_⟩|⟨ak,o,aB,_⟩
     ·simp only[aH.loc.injEq]at bf;exact cF d b8 aQ aB (by omega)
     ·rcases aB with aB|⟨b8,aB,bf,_⟩
      ·exact aB lp.2.2
      ·simp only[aH.loc.injEq]at bf;exact cF d b8 aQ aB (by omega)
     ·cases aB
     ·rw[lp.2.2]at aB;cases aB
  ·rw[sc (lB fun ag=>?_)]
   ·exact av
   ·rw[e]at hm;rcases ty.e k ag with⟨ak,d,_,_,_,aB⟩|⟨ak,_⟩|⟨ak,_⟩|⟨ak,_⟩
    ·rw[aB]at av;cases av
    ·rw[ak]at hm;simp[e5]at hm
    ·rw[ak]at hm;simp[e5]at hm
    ·rw[ak]at hm;simp[e5]at hm
  ·refine sb (lB fun ag=>?_);rw[e]at hm;rcases ty.b k ag with⟨ak,_⟩|ak|⟨ak,_⟩|⟨ak,_⟩<;>(rw[ak]at hm;simp[e5]at hm)
  ·rw[e]at hm;refine⟨⟨lp.1,fun ql=>?_⟩,?_,?_⟩
   ·rcases ty.r _ ql with⟨b8,ak,aB⟩|⟨ak|ak,_⟩
    ·cases aB
    ·rw[ak]at hm;simp[e5]at hm
    ·rw[ak]at hm;simp[e5]at hm
   ·rw[sb (lB fun ag=>?_)]
    ·exact lp.2.1
    ·rcases ty.b _ ag with⟨ak,_⟩|ak|⟨ak,_⟩|⟨ak,_⟩<;>(rw[ak]at hm;simp[e5]at hm)
   ·rw[sc (lB fun ag=>?_)]
    ·exact lp.2.2
    ·rcases ty.e _ ag with⟨ak,_⟩|⟨ak,_⟩|⟨ak,_⟩|⟨ak,o,aB,_⟩
     ·rw[ak]at hm;simp[e5]at hm
     ·rw[ak]at hm;simp[e5]at hm
     ·rw[ak]at hm;simp[e5]at hm
     ·rw[lp.2.2]at aB;cases aB
  ·rw[sc (lB fun ag=>?_)]
   ·exact av
   ·rw[e]at hm;rcases ty.e k ag with⟨ak,d,_,_,_,aB⟩|⟨ak,_⟩|⟨ak,_⟩|⟨ak,_⟩
    ·rw[aB]at av;cases av
    ·rw[ak]at hm;simp[e5]at hm
    ·rw[ak]at hm;simp[e5]at hm
    ·rw[ak]at hm;simp[e5]at hm
  ·rw[e]at hm;refine⟨?_,?_,fun gg=>⟨gg,fun ql=>?_⟩⟩;rotate_left 2
   ·rcases ty.r _ ql with⟨b8,_,aB⟩|⟨aB|aB,_⟩
    ·cases aB
    ·rw[aB]at hm;simp[e5]at hm
    ·rw[aB]at hm;simp[e5]at hm
   ·refine sb (lB fun ag=>?_);rcases ty.b _ ag with⟨ak,d,_,aB,_⟩|ak|⟨ak,_⟩|⟨ak,_⟩;rotate_left 3
    ·rw[ak]at hm;simp[e5]at hm
    ·cases aB
    ·rw[ak]at hm;simp[e5]at hm
    ·rw[ak]at hm;simp[e5]at hm
   ·refine sc (lB fun ag=>?_);rcases ty.e _ ag with⟨ak,d,_,aB,_⟩|⟨ak,_⟩|⟨ak,_⟩|⟨ak,_⟩
    ·cases aB
    ·rw[ak]at hm;simp[e5]at hm
    ·rw[ak]at hm;simp[e5]at hm
    ·rw[ak]at hm;simp[e5]at hm
 ·refine⟨fun i hi e=>?_,fun k ad=>lB fun ag=>?_,fun k ad=>lB fun ag=>?_⟩
  ·rw[yc.d]at hi;rw[ty.d]at e;exact cF i i hi e rfl
  ·rcases qu k ad with⟨bD,d,a2,a3,_⟩|bD|⟨bD,⟨j,a2⟩,_⟩|⟨bD,_⟩<;>rcases ty.b k ag with⟨cc,b8,b4,fH,_⟩|cc|⟨cc,⟨dD,b4⟩,_⟩|⟨cc,⟨dD,b4⟩,_⟩;all_goals first|(rw[bD,cc]at hm;simp[e5]at hm;done)|skip
   ·rw[a3]at fH;simp only[aH.loc.injEq]at fH;exact cF d b8 a2 b4 (by omega)
   ·rw[a3]at b4;cases b4
   ·rw[a3]at b4;cases b4
   ·rw[a2]at fH;cases fH
  ·rcases hle k ad with⟨bD,d,a2,a3,_,a4⟩|⟨bD,a2⟩|⟨bD,⟨j,a2⟩,_⟩|⟨bD,gy,a2,_⟩<;>rcases ty.e k ag with⟨cc,b8,b4,fH,_,nX⟩|⟨cc,b4⟩|⟨cc,⟨dD,b4⟩,_⟩|⟨cc,gv,b4,_⟩
   ·rw[a3]at fH;simp only[aH.loc.injEq]at fH;exact cF d b8 a2 b4 (by omega)
   ·rw[bD,cc]at hm;simp[e5]at hm
   ·rw[a3]at b4;cases b4
   ·rw[a4]at b4;cases b4
   ·rcases a2 with a2|⟨d,a2,a3,_⟩
    ·exact a2 nX
    ·rw[a3]at fH;simp only[aH.loc.injEq]at fH;exact cF d b8 a2 b4 (by omega)
   ·rw[bD,cc]at hm;simp[e5]at hm
   ·rw[bD,cc]at hm;simp[e5]at hm
   ·rw[bD,cc]at hm;simp[e5]at hm
   ·rw[a2]at fH;cases fH
   ·rw[bD,cc]at hm;simp[e5]at hm
   ·rw[bD,cc]at hm;simp[e5]at hm
   ·rw[bD,cc]at hm;simp[e5]at hm
   ·rw[nX]at a2;cases a2
   ·rw[bD,cc]at hm;simp[e5]at hm
   ·rw[bD,cc]at hm;simp[e5]at hm
   ·rw[bD,cc]at hm;simp[e5]at hm
def wA(C:e8)(A:de)(a:Act)(w:World):Prop:= ∃st ν,lb st A∧(∀k,A.F k→fresh st.n st.o k)∧cO C st a w ν
theorem Kt{st:bq}{A:de}(h:lb st A)(d:Nat)(p:ah):lb {st with t:=put d p st.t} (A.do ⟨some d,p,[],[],none⟩):=by
 refine⟨fun i=>?_,fun k=>?_,fun k=>?_⟩
 ·simp only[de.do,o5,dG,h.t]
 ·simpa[de.do,ig,look]using h.b k
 ·simpa[de.do,ig,look]using h.e k
theorem TS{st:bq}{A:de}(h:lb st A)(d:Nat)(p:ah)(o':List aH)(rm:Option aH):lb {st with t:=put d p st.t,o:=o'} (A.do ⟨some d,p,[],[],rm⟩):=by have:=Kt h d p;exact⟨this.t,this.b,this.e⟩
theorem Xy{α:Type}{β:Type}:∀l:List (aH×α),cv ([]:List (aH×β)) l=l
 |[]=>rfl
 |(k,x)::r=>by simp[cv,look,Xy r]
theorem zE{st:bq}{A:de}(h:lb st A)(d:Nat)(p:ah)(κ:aH)(cs:List ah)(n':Nat)(o':List aH)(rm:Option aH):lb ⟨put d p st.t,cw κ cs st.b,st.e,n',o'⟩ (A.do ⟨some d,p,[(κ,cs)],[],rm⟩):=by
 refine⟨fun i=>?_,fun k=>?_,fun k=>?_⟩
 ·simp only[de.do,o5,dG,h.t]
 ·simp only[de.do,ig,look,iI,h.b];by_cases e:κ=k<;>simp[e]
 ·simpa[de.do,ig,look]using h.e k
theorem FB{st:bq}{A:de}(h:lb st A)(κ:aH)(cs:List ah)(p:ah):lb {st with b:=cw κ cs st.b} (A.do ⟨none,p,[(κ,cs)],[],none⟩):=by
 refine⟨fun i=>?_,fun k=>?_,fun k=>?_⟩
 ·simpa[de.do]using h.t i
 ·simp only[de.do,ig,look,iI,h.b];by_cases e:κ=k<;>simp[e]
 ·simpa[de.do,ig,look]using h.e k
theorem vE{st:bq}{A:de}(h:lb st A)(d:Nat)(p:ah)(κ:aH)(o:fF)(n':Nat)(o':List aH)(rm:Option aH):lb ⟨put d p st.t,st.b,cw κ o st.e,n',o'⟩ (A.do ⟨some d,p,[],[(κ,o)],rm⟩):=by
 refine⟨fun i=>?_,fun k=>?_,fun k=>?_⟩
 ·simp only[de.do,o5,dG,h.t]
 ·simpa[de.do,ig,look]using h.b k
 ·simp only[de.do,ig,look,iI,h.e];by_cases e:κ=k<;>simp[e]
theorem TR{st:bq}{A:de}(h:lb st A)(κ:aH)(o:fF)(p:ah):lb {st with e:=cw κ o st.e} (A.do ⟨none,p,[],[(κ,o)],none⟩):=by
 refine⟨fun i=>?_,fun k=>?_,fun k=>?_⟩
 ·simpa[de.do]using h.t i
 ·simpa[de.do,ig,look]using h.b k
 ·simp only[de.do,ig,look,iI];by_cases e:κ=k<;>simp[e,h.e]
theorem KI{α:Type}{k:aH}:∀{l:List (aH×α)},k∈l.map (·.1)→(look k l).isSome
 |[],h=>by simp at h
 |(i,x)::r,h=>by
  simp only[look];split
  ·rfl
  ·rename_i e;simp only[gG,fU]at h;rcases h with h|h
   ·exact absurd h.symm e
   ·exact KI h
theorem u3{n:Nat}{o:List aH}{κ:aH}:∀j,fresh n (κ::o) j→fresh n o j∧j≠κ:=by intro j af;simp only[fresh,fU,not_or]at af⊢;exact⟨⟨af.1,af.2.2⟩,af.2.1⟩
theorem acC{n:Nat}{o:List aH}{κ j:aH}(h:fresh n o j)(af:some κ≠some j):fresh n (κ::o) j:=by simp only[fresh,fU,not_or]at h⊢;exact⟨h.1,fun e=>af (by rw[e]),h.2⟩
theorem Nh{P:cB}{bA:List (Nat×dC)}(aN:fM P bA=true){C:e8}{q:Bool}{n0:Nat}{i:eb}{o:Oper}(av:ur C.N bA i o=true){A:de}{x:kC}(ab:ep P q n0 i A x){a:Act}{w:World}(aL:wA C A a w)
  {K:Act→World→Prop} {Q:Exit→Act→World→Prop} (c9:∀bm w',wA C (A.do x) bm w'→K bm w'):o.wp P a w K Q:=by
 obtain⟨st,ν,au,gg,aL⟩:=aL;have wY:∀(t:List (Nat×ah)) (b:List (aH×List ah)) (e:List (aH×fF)) (d:Option Nat) (p:ah) (bw:List (aH×List ah)) (ew:List (aH×fF)),∀k,(A.do ⟨d,p,bw,ew,none⟩).F k→fresh st.n st.o k:=fun t b e d p bw ew k ad=>gg k ad.1;have mO:∀(d:Option Nat) (p:ah) (bw:List (aH×List ah)) (ew:List (aH×fF)) (κ:aH),∀k,(A.do ⟨d,p,bw,ew,some κ⟩).F k→fresh st.n (κ::st.o) k:=fun d p bw ew κ k ad=>acC (gg k ad.1) ad.2;cases i with
 |s i=>
  have hI:C2 C.N bA i o=true:=by simpa only[ur]using av
  cases i with
  |v d i=>simp only[ep]at ab;obtain⟨c,p,J,U,_,rfl⟩:=ab;rw[←WU au]at J;refine jE (κ:= .loc 0) (n':=0) (o₁:=[]) aN aL hI (fun h=>by simp[ek.makes]at h) (fun h=>by simp[ek.makes]at h) (st':={st with t:=put d p st.t}) (by simp only[eE,J]) U fun bm w' bk cr=>c9 _ _ ⟨_,bk,Kt au d p,fun k ad=>gg k ad.1,cr⟩
  |box d key v=>
   cases key with
   |some m=>simp only[ep]at ab
   |none=>simp only[ep]at ab;obtain⟨⟨J,_⟩,U,rfl⟩:=ab;rw[←iD au]at U;refine jE (κ:= .loc (n0+d)) (n':=st.n) (o₁:= .loc (n0+d)::st.o) aN aL hI (fun _=>gg _ J) (fun _=>u3) (st':=⟨put d (.ptr (.loc (n0+d)) 0) st.t,cw (.loc (n0+d)) (cells (cm st.t v)) st.b,st.e,st.n,.loc (n0+d)::st.o⟩) (by simp only[eE]) U fun bm w' bk cr=>c9 _ _ ⟨_,bk,?_,mO _ _ _ _ _,cr⟩;rw[iD au];exact zE au d _ _ _ _ _ _
  |alloc d key z=>
   cases key with
   |some m=>simp only[ep]at ab
   |none=>simp only[ep]at ab;obtain⟨⟨J,_⟩,rfl⟩:=ab;refine jE (κ:= .loc (n0+d)) (n':=st.n) (o₁:= .loc (n0+d)::st.o) aN aL hI (fun _=>gg _ J) (fun _=>u3) (st':=⟨put d (.ptr (.loc (n0+d)) 0) st.t,cw (.loc (n0+d)) (cells z) st.b,st.e,st.n,.loc (n0+d)::st.o⟩) (by simp only[eE]) trivial fun bm w' bk cr=>c9 _ _ ⟨_,bk,zE au d _ _ _ _ _ _,mO _ _ _ _ _,cr⟩
  |store sz u v=>simp only[ep]at ab;obtain⟨k,off,cs,J,U,ao,rfl⟩:=ab;rw[←iD au]at J ao;rw[←au.b]at U;refine jE (κ:= .loc 0) (n':=0) (o₁:=[]) aN aL hI (fun h=>by simp[ek.makes]at h) (fun h=>by simp[ek.makes]at h) (st':={st with b:=cw k (nH cs off (cells (cm st.t v))) st.b}) (by simp only[eE,J,U]) ao fun bm w' bk cr=>c9 _ _ ⟨{st with b:=cw k (nH cs off (cells (cm st.t v))) st.b},bk,by rw[iD au];exact FB au k _ _,fun k ad=>gg k ad.1,cr⟩
  |bsl d sz el xs=>simp only[ep]at ab;obtain⟨⟨J,_⟩,U,rfl⟩:=ab;rw[←tA au]at U;refine jE (κ:= .loc (n0+d)) (n':=st.n) (o₁:= .loc (n0+d)::st.o) aN aL hI (fun _=>gg _ J) (fun _=>u3) (st':=⟨put d (.slice sz (.own (.loc (n0+d))) (xs.map (cm st.t))) st.t,st.b,cw (.loc (n0+d)) ⟨xs.length,el,sz,none⟩ st.e,st.n,.loc (n0+d)::st.o⟩) (by simp only[eE]) U fun bm w' bk cr=>c9 _ _ ⟨_,bk,?_,mO _ _ _ _ _,cr⟩;rw[tA au];exact vE au d _ _ _ _ _ _
  |app d sz el u v=>
   simp only[ep]at ab;obtain⟨tag,xs,kM,ys,J,U,ab⟩:=ab;rw[←iD au]at J U;rcases ab with⟨k,ow,rfl,ao,a8,rfl⟩|⟨rfl,ao,⟨a8,_⟩,rfl⟩
   ·rw[←au.e]at ao;refine jE (κ:= .loc 0) (n':=0) (o₁:=[]) aN aL hI (fun h=>by simp[ek.makes,J]at h) (fun h=>by simp[ek.makes,J]at h) (st':=⟨put d (.slice sz (.own k) (xs++ys)) st.t,st.b,cw k ⟨xs.length+ys.length,el,sz,none⟩ st.e,st.n,st.o⟩) (by simp only[eE,J,U,ao,and_self,if_true]) a8.2 fun bm w' bk cr=>c9 _ _ ⟨_,bk,vE au d _ _ _ _ _ _,fun k ad=>gg k ad.1,cr⟩
   ·refine jE (κ:= .loc (n0+d)) (n':=st.n) (o₁:= .loc (n0+d)::st.o) aN aL hI (fun _=>gg _ a8) (fun _=>u3) (st':=⟨put d (.slice sz (.own (.loc (n0+d))) ys) st.t,st.b,cw (.loc (n0+d)) ⟨ys.length,el,sz,none⟩ st.e,st.n,.loc (n0+d)::st.o⟩) (by simp only[eE,J,U,and_self,if_true]) ao fun bm w' bk cr=>c9 _ _ ⟨_,bk,vE au d _ _ _ _ _ _,mO _ _ _ _ _,cr⟩
  |bslm d key sz el xs=>simp only[ep]at ab
  |mks d key sz el z x=>simp only[ep]at ab
  |appm d key sz el u v=>simp only[ep]at ab;obtain⟨k,n,xs,kM,ys,J,U,ao,a8,rfl⟩:=ab;rw[←iD au]at J U;rw[←au.e]at ao;refine jE (κ:= .loc 0) (n':=0) (o₁:=[]) aN aL hI (fun h=>by simp[ek.makes,J]at h) (fun h=>by simp[ek.makes,J]at h) (st':=⟨put d (.row sz k (xs.length+ys.length)) st.t,st.b,cw k ⟨xs.length+ys.length,el,sz,some (xs++ys)⟩ st.e,st.n,st.o⟩) (by simp only[eE,r7,J,U,ao,and_self,if_true]) a8 fun bm w' bk cr=>c9 _ _ ⟨_,bk,vE au d _ _ _ _ _ _,fun k ad=>gg k ad.1,cr⟩
  |storeE sz u v=>simp only[ep]at ab;obtain⟨k,n,i,f,el,dF,xs,q,J,U,ao,a8,rfl⟩:=ab;rw[←iD au]at J a8;rw[←au.e]at U;refine jE (κ:= .loc 0) (n':=0) (o₁:=[]) aN aL hI (fun h=>by simp[ek.makes]at h) (fun h=>by simp[ek.makes]at h) (st':={st with e:=cw k ⟨n,el,dF,some (xs.set i (my q f (cells (cm st.t v))))⟩ st.e}) (by simp only[eE,qK,J,U,ao,and_self,if_true]) a8 fun bm w' bk cr=>c9 _ _ ⟨{st with e:=cw k ⟨n,el,dF,some (xs.set i (my q f (cells (cm st.t v))))⟩ st.e},bk,by rw[iD au];exact TR au k _ _,fun k ad=>gg k ad.1,cr⟩
  |mkmap d key=>
   cases key with
   |none=>simp only[ep]at ab
   |some m=>simp only[ep]at ab;obtain⟨⟨J,_⟩,rfl⟩:=ab;exact jE (κ:= .obj m) (n':=st.n) (o₁:= .obj m::st.o) aN aL hI (fun _=>gg _ J) (fun _=>u3) (st':=⟨put d (.gmap (.obj m)) st.t,cw (.obj m) [.hdm 0 []] st.b,st.e,st.n,.obj m::st.o⟩) (by simp only[eE]) trivial fun bm w' bk cr=>c9 _ _ ⟨_,bk,zE au d _ _ _ _ _ _,mO _ _ _ _ _,cr⟩
  |mput b9 u k v=>simp only[ep]at ab;obtain⟨m,cs,cs',J,U,ao,rfl⟩:=ab;rw[←iD au]at J;rw[←iD au,←iD au]at ao;rw[←au.b]at U;exact jE (κ:= .loc 0) (n':=0) (o₁:=[]) aN aL hI (fun h=>by simp[ek.makes]at h) (fun h=>by simp[ek.makes]at h) (st':={st with b:=cw m cs' st.b}) (by simp only[eE,J,U,ao]) trivial fun bm w' bk cr=>c9 _ _ ⟨{st with b:=cw m cs' st.b},bk,FB au m _ _,fun k ad=>gg k ad.1,cr⟩
  |range d key x=>simp only[ep]at ab
 |next d x=>simp only[ep]at ab
 |call d f xs=>
  simp only[ep]at ab;obtain⟨n,dp,J,ab⟩:=ab;rw[←iD au]at J;rcases ab with⟨⟨s,ai,r,rm,bH,cj,da,ie,lM,oW,A1,rfl⟩,_⟩|⟨cG,r,rfl,bH,cj,da,rfl⟩;rotate_left
  ·rw[←tA au]at cj da;simp only[ur]at av;split at av
   ·rename_i qX args Ay mU;simp only[cz,dL]at av;obtain⟨⟨⟨ak,aB⟩,bf⟩,dd⟩:=av;have lQ:=eh aL bf;rw[J]at lQ;refine P0 aL mU ak aB lQ (CX aL dd) (K:=fun st'=>st'={st with t:=put cG r st.t,o:= .loc (n0+cG)::st.o}) ⟨⟨[],[]⟩,_,some (n0+cG),st.n,fun _=>.loc (n0+cG)::st.o,fun k cs ad=>by simp[look]at ad,fun k cs ad=>by simp[look]at ad,⟨fun _=>rfl,fun _=>rfl⟩,jL (fun _ h=>h.elim) _ cj,da,fun m hm=>?_,fun k eJ ai bn ad=>?_,?_⟩ ?_
    ·cases hm;exact gg _ bH.1
    ·obtain⟨_,rfl⟩:=bn;have:=u3 k ad;exact⟨by simpa[cQ]using this.1,fun m hm=>by cases hm;exact this.2⟩
    ·rintro eJ oA ⟨rfl,rfl⟩;refine⟨⟨fun m hm=>by simp[look]at hm,fun m hm=>by simp[look]at hm⟩,?_⟩;simp[after,Xy,eQ]
    ·rintro st' bm w' bk rfl cr;exact c9 _ _ ⟨_,bk,TS au cG r _ _,mO _ _ _ _ _,cr⟩
   ·cases av
  rw[←tA au]at oW A1;simp only[ur]at av;split at av
  ·rename_i qX args Ay mU;simp only[cz,dL]at av;obtain⟨⟨⟨ak,aB⟩,bf⟩,dd⟩:=av;have lQ:=eh aL bf;rw[J]at lQ;obtain⟨aS,bp,bW,dy,c0⟩:=lM;refine PZ aL mU ak aB lQ (CX aL dd) (K:=fun st'=>st'=after st s ai d r) (.inl ⟨s,_,fun k cs ad=>⟨by rw[au.b];exact(bH k cs ad).1,.inl (by simp[ad]),(bH k cs ad).2⟩,fun k o' ad=>⟨by rw[au.e];exact(cj k o' ad).1,.inr (by simp[ad]),(cj k o' ad).2⟩,da,oW,A1,?_⟩) ?_
   ·rintro eJ oA ⟨rfl,rfl⟩;refine⟨⟨fun m hm=>?_,fun m hm=>?_⟩,rfl⟩
    ·rcases aS _ hm with h|h
     ·exact .inl h
     ·exact .inr (gg _ (c0 _ h).2.1).2
    ·rcases bp _ hm with h|h
     ·exact .inl h
     ·exact .inr (gg _ (c0 _ h).2.1).2
   ·rintro st' bm w' bk rfl cr;refine c9 _ _ ⟨_,bk,⟨fun i=>?_,fun k=>?_,fun k=>?_⟩,fun k ad=>?_,cr⟩
    ·simp only[after,de.do];cases d with
     |none=>simpa[eQ]using au.t i
     |some d=>simp only[eQ,o5,dG,au.t]
    ·simp only[after,de.do,ig,xD,ue];by_cases ag:(look k s.b).isSome
     ·have:=bW k ag;obtain⟨y,aG⟩:=fD.1 this;simp[ag,aG]
     ·cases aw:look k ai.b with
      |none=>simp only[ag,au.b];cases A.b k<;>simp
      |some y=>
       rcases aS k (by simp[aw])with h|h
       ·exact absurd h ag
       ·have:=c0 k h;simp[ag,au.b,this]
    ·simp only[after,de.do,ig,xD,ue];by_cases ag:(look k s.e).isSome
     ·have:=dy k ag;obtain⟨y,aG⟩:=fD.1 this;simp[ag,aG]
     ·cases aw:look k ai.e with
      |none=>simp only[ag,au.e];cases A.e k<;>simp
      |some y=>
       rcases bp k (by simp[aw])with h|h
       ·exact absurd h ag
       ·have:=c0 k h;simp[ag,au.e,this]
    ·have Jo:=gg k ad.1;have od:=aL.lookNone Jo;simp only[after];refine⟨Jo.1,fun jv=>?_⟩;rcases jU.1 jv with jv|jv
     ·exact Jo.2 jv
     ·rcases jU.1 jv with jv|jv
      ·rcases aS k (KI jv)with h|h
       ·obtain⟨y,aG⟩:=fD.1 h;have:=(bH k y aG).1;rw[←au.b,od.1]at this;cases this
       ·exact ad.2 h
      ·rcases bp k (KI jv)with h|h
       ·obtain⟨y,aG⟩:=fD.1 h;have:=(cj k y aG).1;rw[←au.e,od.2]at this;cases this
       ·exact ad.2 h
  ·cases av
theorem XM{P:cB}{bA:List (Nat×dC)}(aN:fM P bA=true){C:e8}{q:Bool}{n0:Nat}{ops:Array Oper}{g:c5}{o:Oper}{j:Nat}(af:ops[j]? =some o)(av:Bo C.N bA ops.toList g o=true){A:de}{x:kC}(ab:kD P q n0 g A x){a:Act}{w:World}(aL:wA C A a w)
  {K:Act→World→Prop} {Q:Exit→Act→World→Prop} (c9:∀bm w',wA C (A.do x) bm w'→K bm w'):wpOp P ops Q j K a w:=by
 unfold wpOp;rw[af];simp only;simp only[Bo,cz]at av;obtain⟨qs,rb⟩:=av;unfold kD at ab;cases BG:g.g with
 |none=>
  cases eO:o.guard with
  |some x=>simp[eO,BG]at qs
  |none=>
   have hw:oP o (yielded ops a.tmps)=true:=by simp[oP,eO]
   rw[if_pos hw];simp only[BG]at ab;exact .inl (Nh aN rb ab aL c9)
 |some x9=>
  obtain⟨s,want⟩:=x9;cases eO:o.guard with
  |none=>simp[eO,BG]at qs
  |some amR=>
   obtain⟨ao0,bO⟩:=amR;simp only[eO,BG,cz,dL,fE]at qs;obtain⟨⟨⟨⟨rfl,U⟩,ao⟩,a8⟩,bZ⟩:=qs;obtain⟨st,ν,au,gg,df⟩:=id aL;obtain⟨ky,oN⟩:=XB df U ao;simp only[BG]at ab;have SD:∀(h:x=k6 g.i.dst),K (a.put o.dst undef) w:=by
    rintro rfl;rw[a8];refine c9 _ _ ⟨_,ν,?_,fun k ad=>?_,df.put bZ (p:= .tuple []) (by simp[a7,cK,undef])⟩
    ·refine⟨fun i=>?_,fun k=>?_,fun k=>?_⟩
     ·simp only[de.do,k6];cases g.i.dst with
      |none=>simpa[eQ]using au.t i
      |some d=>simp only[eQ,o5,dG,au.t]
     ·simpa[de.do,ig,look,k6]using au.b k
     ·simpa[de.do,ig,look,k6]using au.e k
    ·exact gg k ad.1
   split at ab
   ·rename_i b ae;have aG:=ky b (by rw[au.t];exact ae);rcases ab with⟨rfl,ab⟩|⟨rfl,ab⟩
    ·have hw:oP o (yielded ops a.tmps)=true:=by simp[oP,eO,aG]
     rw[if_pos hw];exact .inl (Nh aN rb ab aL c9)
    ·have hw:¬(oP o (yielded ops a.tmps)=true):=by simp[oP,eO,aG]
     rw[if_neg hw];exact SD ab
   ·rename_i ae;have aG:=oN (by rw[au.t];exact ae);have hw:¬(oP o (yielded ops a.tmps)=true):=by simp[oP,eO,aG]
    rw[if_neg hw];exact SD ab
   ·exact ab.elim
def uX(P:cB)(q:Bool)(n0:Nat)(K:de→Prop):List (Nat×c5)→de→Prop
 |[],A=>K A
 |(_,g)::r,A=> ∃x,kD P q n0 g A x∧uX P q n0 K r (A.do x)
theorem NT{P:cB}{q:Bool}{n0:Nat}{K:de→Prop}{i:Nat}{g:c5}:∀(nR oS:List (Nat×c5)) (A:de),(∀x∈nR,yR x.2 g=true)→uX P q n0 K (nR++(i,g)::oS) A→∃x,kD P q n0 g A x∧uX P q n0 K (nR++oS) (A.do x)
 |[],oS,A,_,h=>h
 |(j,Rt)::nR,oS,A,ay,h=>by simp only[bT,uX]at h;obtain⟨y,aG,h⟩:=h;obtain⟨x,ab,h⟩:=NT nR oS (A.do y) (fun z br=>ay z (ps _ br)) h;obtain⟨s1,s2,s3⟩:=swap (ay _ (List.mem_cons_self ..)) aG ab;refine⟨x,s1,y,s2,?_⟩;rw[←de.do_comm A s3];exact h
def rem(hz:Array Bool):Nat→List c5→List (Nat×c5)
 |_,[]=>[]
 |k,g::r=>if hz.getD k false then rem hz (k+1) r else(k,g)::rem hz (k+1) r
theorem VS{l aZ:Array Bool}:∀(gs:List c5) (k:Nat),(∀j,k≤j→l.getD j false=aZ.getD j false)→rem l k gs=rem aZ k gs
 |[],_,_=>rfl
 |g::r,k,h=>by simp only[rem,h k (eR _),VS r (k+1) fun j af=>h j (by omega)]
theorem Ev{l:Array Bool}{i j:Nat}(h:i<l.size):(l.setIfInBounds i true).getD j false=if i=j then true else l.getD j false:=by
 simp only[Array.getD_eq_getD_getElem?];by_cases e:i=j
 ·subst e;simp[h]
 ·simp[e]
theorem LS{l:Array Bool}{i:Nat}(hi:i<l.size)(aw:l.getD i false=false):∀(gs:List c5) (k:Nat),k≤i→i<k+gs.length→∃nR oS g,gs[i-k]? =some g∧rem l k gs=nR++(i,g)::oS∧rem (l.setIfInBounds i true) k gs=nR++oS∧
  ∀x∈nR,gs[x.1-k]? =some x.2∧k≤x.1∧x.1<i∧l.getD x.1 false=false
 |[],k,J,U=>by simp at U;omega
 |g::r,k,J,U=>by
  by_cases e:k=i
  ·subst e;refine⟨[],rem l (k+1) r,g,by simp,by simp[rem,aw],?_,fun x ab=>by simp at ab⟩;simp only[rem,Ev hi,if_true,bY];exact VS r (k+1) fun j af=>by rw[Ev hi,if_neg (by omega)]
  ·obtain⟨nR,oS,e3,ak,aB,bf,dd⟩:=LS hi aw r (k+1) (by omega) (by simp at U;omega);have ve:i-k=(i-(k+1))+1:=by omega
   have gU:(l.setIfInBounds i true).getD k false=l.getD k false:=by rw[Ev hi,if_neg (by omega)]
   by_cases ad:l.getD k false=true
   ·refine⟨nR,oS,e3,by rw[ve];simpa using ak,by simp only[rem,ad,if_true,aB],by simp only[rem,gU,ad,if_true,bf],fun x ab=>?_⟩;obtain⟨f1,f2,f3,f4⟩:=dd x ab;refine⟨?_,by omega,f3,f4⟩;have:x.1-k=(x.1-(k+1))+1:=by omega
    rw[this];simpa using f1
   ·have ad:l.getD k false=false:=by simpa using ad
    refine⟨(k,g)::nR,oS,e3,by rw[ve];simpa using ak,by simp[rem,ad,aB],by simp[rem,gU,ad,bf],fun x ab=>?_⟩;rcases fU.1 ab with rfl|ab
    ·exact⟨by simp,eR _,by simp;omega,ad⟩
    ·obtain⟨f1,f2,f3,f4⟩:=dd x ab;refine⟨?_,by omega,f3,f4⟩;have:x.1-k=(x.1-(k+1))+1:=by omega
     rw[this];simpa using f1
def uf(acc:List Nat):List Edge→Nat
 |[]=>0
 |e::r=>if Region.binds .any e then(2 ^ e.on)|||(acc.getD e.on 0)|||uf acc r else uf acc r
def rB(acc:List Nat):List Oper→List Nat
 |[]=>acc
 |o::os=>rB (acc++[uf acc o.after.toList]) os
def CZ(m:Nat)(h:c5):Nat→List c5→Bool
 |_,[]=>true
 |i,g::r=>(m.testBit i||yR g h)&&CZ m h (i+1) r
def CL:List c5→List c5→List Nat→Bool
 |_,[],_=>true
 |pre,h::r,m::ms=>CZ m h 0 pre&&CL (pre++[h]) r ms
 |_,_,[]=>false
def A9:Nat→List Oper→Bool
 |_,[]=>true
 |k,o::os=>o.after.toList.all (fun e=> !Region.binds .any e||decide (e.on<k))&&A9 (k+1) os
def AU(gs:List c5)(ops:List Oper):Bool:=A9 0 ops&&CL [] gs (rB [] ops)
theorem KB{acc:List Nat}{j:Nat}:∀{es:List Edge},(uf acc es).testBit j=true→∃e∈es,Region.binds .any e=true∧(j=e.on∨(acc.getD e.on 0).testBit j=true)
 |[],h=>by simp[uf]at h
 |e::r,h=>by
  simp only[uf]at h;split at h
  ·rename_i ae;simp only[Nat.testBit_or,mB]at h;rcases h with(h|h)|h
   ·refine⟨e,by simp,ae,.inl ?_⟩;rw[Nat.testBit_two_pow]at h;have cr:e.on=j:=by simpa using h
    exact cr.symm
   ·exact⟨e,by simp,ae,.inr h⟩
   ·obtain⟨fL,J,U⟩:=KB h;exact⟨fL,by simp[J],U⟩
  ·obtain⟨fL,J,U⟩:=KB h;exact⟨fL,by simp[J],U⟩
theorem KC:∀(os:List Oper) (acc:List Nat) (k:Nat),k<acc.length→(rB acc os)[k]? =acc[k]?
 |[],acc,k,_=>rfl
 |o::os,acc,k,h=>by simp only[rB];rw[KC os _ k (by simp;omega),List.getElem?_append_left h]
theorem TZ:∀(os:List Oper) (acc:List Nat) (k:Nat) (o:Oper),os[k]? =some o→∃tl,(rB acc os)[acc.length+k]? =some (uf tl o.after.toList)∧tl.length=acc.length+k∧∀i,i<tl.length→tl[i]? =(rB acc os)[i]?
 |[],acc,k,o,h=>by simp at h
 |o'::os,acc,0,o,h=>by
  simp only[List.getElem?_cons_zero,dG]at h;subst h;refine⟨acc,?_,by simp,fun i hi=>?_⟩
  ·simp only[rB,Nat.add_zero];rw[KC os _ _ (by simp)];simp
  ·simp only[rB];rw[KC os _ i (by simp;omega),List.getElem?_append_left hi]
 |o'::os,acc,k+1,o,h=>by simp only[List.getElem?_cons_succ]at h;obtain⟨tl,J,U,ao⟩:=TZ os (acc++[uf acc o'.after.toList]) k o h;refine⟨tl,?_,by rw[U];simp;omega,fun i hi=>by rw[ao i hi];rfl⟩;simp only[rB];rw[show acc.length+(k+1)=(acc++[uf acc o'.after.toList]).length+k from by simp;omega];exact J
def Nb(ops:Array Oper)(hz:Array Bool):Prop:= ∀k o,ops[k]? =some o→hz.getD k false=true→∀e∈o.after.toList,Region.binds .any e=true→hz.getD e.on false=true
theorem agk{ops:Array Oper}{hz:Array Bool}(aQ:Nb ops hz):∀(k:Nat) (o:Oper),ops[k]? =some o→(∀e∈o.after.toList,Region.binds .any e=true→hz.getD e.on false=true)→∀j,((rB [] ops.toList).getD k 0).testBit j=true→hz.getD j false=true:=by
 intro k;induction k using Nat.strongRecOn with
 |_ k bS=>
  intro o av au j af;obtain⟨tl,J,U,ao⟩:=TZ ops.toList [] k o (by simpa using av);simp only[List.length_nil,Nat.zero_add]at J U;rw[List.getD_eq_getElem?_getD,J]at af;obtain⟨e,he,ae,cM⟩:=KB af;rcases cM with rfl|cM
  ·exact au e he ae
  ·by_cases bC:e.on<tl.length
   ·have hm:tl.getD e.on 0=(rB [] ops.toList).getD e.on 0:=by rw[List.getD_eq_getElem?_getD,ao _ bC,List.getD_eq_getElem?_getD]
    have ad:k<ops.size:=(Array.getElem?_eq_some_iff.1 av).1;have hI:ops[e.on]? =some ops[e.on]:=Array.getElem?_eq_getElem (by omega);rw[hm]at cM;exact bS e.on (by omega) _ hI (fun fL vc fR=>aQ e.on _ hI (au e he ae) fL vc fR) j cM
   ·rw[List.getD_eq_getElem?_getD,p7 (by omega)]at cM;simp at cM
theorem Wb{m:Nat}{h:c5}:∀{gs:List c5} {i0:Nat},CZ m h i0 gs=true→∀i g,gs[i]? =some g→m.testBit (i0+i)=true∨yR g h=true
 |[],i0,_,i,g,a1=>by simp at a1
 |e3::r,i0,aL,0,g,a1=>by simp only[CZ,cz,mB]at aL;simp only[List.getElem?_cons_zero,dG]at a1;subst a1;simpa using aL.1
 |e3::r,i0,aL,i+1,g,a1=>by simp only[CZ,cz]at aL;have:=Wb aL.2 i g (by simpa using a1);rwa[show i0+1+i=i0+(i+1)from by omega]at this
theorem US:∀{gs pre:List c5} {ms:List Nat},CL pre gs ms=true→∀j h,gs[j]? =some h→∀i g,i<pre.length+j→(pre++gs)[i]? =some g→(ms.getD j 0).testBit i=true∨yR g h=true
 |[],pre,ms,_,j,h,af,_,_,_,_=>by simp at af
 |cr::r,pre,[],bI,j,h,af,_,_,_,_=>by simp[CL]at bI
 |cr::r,pre,m::ms,bI,j,h,af,i,g,hi,a1=>by
  simp only[CL,cz]at bI;cases j with
  |zero=>simp only[List.getElem?_cons_zero,dG]at af;subst af;rw[List.getElem?_append_left (by omega)]at a1;simpa using Wb bI.1 i g a1
  |succ j=>have:=US bI.2 j h (by simpa using af) i g (by simp;omega) (by simpa using a1);simpa using this
theorem Qp:∀{os:List Oper} {k:Nat},A9 k os=true→∀i o,os[i]? =some o→∀e∈o.after.toList,Region.binds .any e=true→e.on<k+i
 |[],k,_,i,o,av,_,_,_=>by simp at av
 |o'::os,k,h,0,o,av,e,he,ae=>by simp only[A9,cz,jc]at h;simp only[List.getElem?_cons_zero,dG]at av;subst av;have:=h.1 e he;simpa[ae]using this
 |o'::os,k,h,i+1,o,av,e,he,ae=>by simp only[A9,cz]at h;have:=Qp h.2 i o (by simpa using av) e he ae;omega
theorem Rv{N:Nat}{bA:List (Nat×dC)}{ops:List Oper}:∀{gs:List c5} {os:List Oper},kh N bA ops gs os=true→∀(i:Nat) (g:c5),gs[i]? =some g→∃o,os[i]? =some o∧Bo N bA ops g o=true
 |[],[],_,i,g,h=>by simp at h
 |[],_::_,h,_,_,_=>by simp[kh]at h
 |_::_,[],h,_,_,_=>by simp[kh]at h
 |e3::gs,o::os,h,0,g,a1=>by simp only[kh,cz]at h;simp only[List.getElem?_cons_zero,dG]at a1;subst a1;exact⟨o,by simp,h.1⟩
 |e3::gs,o::os,h,i+1,g,a1=>by simp only[kh,cz]at h;obtain⟨o',J,U⟩:=Rv h.2 i g (by simpa using a1);exact⟨o',by simpa using J,U⟩
theorem I7{N:Nat}{bA:List (Nat×dC)}{ops:List Oper}:∀{gs:List c5} {os:List Oper},kh N bA ops gs os=true→gs.length=os.length
 |[],[],_=>rfl
 |[],_::_,h=>by simp[kh]at h
 |_::_,[],h=>by simp[kh]at h
 |g::gs,o::os,h=>by simp only[kh,cz]at h;simp[I7 h.2]
theorem VT{l:Array Bool}:∀(gs:List c5) (k:Nat),rem l k gs=[]∨ ∃i g,i<gs.length∧gs[i]? =some g∧l.getD (k+i) false=false∧∀j,j<i→l.getD (k+j) false=true
 |[],_=>.inl rfl
 |g::r,k=>by
  by_cases h:l.getD k false=true
  ·rcases VT (l:=l) r (k+1)with J|⟨i,e3,J,U,ao,a8⟩
   ·left;simp only[rem,h,if_true,J]
   ·refine .inr ⟨i+1,e3,by simp;omega,by simpa using U,by rw[show k+(i+1)=k+1+i from by omega];exact ao,fun j af=>?_⟩;cases j with
    |zero=>simpa using h
    |succ j=>rw[show k+(j+1)=k+1+j from by omega];exact a8 j (by omega)
  ·exact .inr ⟨0,g,by simp,by simp,by simpa using h,fun j af=>by omega⟩
theorem Yb{P:cB}{bA:List (Nat×dC)}(aN:fM P bA=true){C:e8}{q:Bool}{n0:Nat}{ops:Array Oper}{gs:List c5}(kk:kh C.N bA ops.toList gs ops.toList=true)(EE:AU gs ops.toList=true){K:de→Prop}{Q:Exit→Act→World→Prop}
  (hU:∀A a w,K A→wA C A a w→Q .normal a w):∀(fuel:Nat) (hz:Array Bool) (A:de) (a:Act) (w:World),hz.size=ops.size→Nb ops hz→(rem hz 0 gs).length≤fuel→uX P q n0 K (rem hz 0 gs) A→wA C A a w→wpAny P .any ops Q fuel hz a w:=by
 simp only[AU,cz]at EE;obtain⟨Jg,aeK⟩:=EE;have hlen:gs.length=ops.size:=by simpa using I7 kk
 have RQ:∀(hz:Array Bool) (A:de) (a:Act) (w:World),hz.size=ops.size→uX P q n0 K (rem hz 0 gs) A→wA C A a w→Region.ready .any ops hz=[]→Q .normal a w:=by
  intro hz A a w ef sk aL E2;rcases VT (l:=hz) gs 0 with h|⟨i,g,J,U,ao,a8⟩
  ·rw[h]at sk;exact hU A a w sk aL
  ·exfalso;have hi:i<ops.size:=by omega
   have jv:i∈Region.ready .any ops hz:=by
    unfold Region.ready;simp only[mD,List.mem_range,cz,rW];refine⟨hi,?_,?_⟩
    ·rw[Nat.zero_add]at ao;simp only[Array.getD_eq_getD_getElem?]at ao⊢;rw[Array.getElem?_eq_getElem (by omega)]at ao⊢;simpa using ao
    ·rw[Array.getElem?_eq_getElem hi];simp only[nQ,j9];rw[←Array.all_toList,jc];intro e he;by_cases ae:Region.binds .any e=true
     ·have bC:=Qp Jg i ops[i] (by simp[hi]) e he ae;have:=a8 e.on (by omega);rw[Nat.zero_add]at this;simp[this]
     ·simp[ae]
   rw[E2]at jv;simp at jv
 intro fuel;induction fuel with
 |zero=>
  intro hz A a w ef aQ aI sk aL;have aeE:rem hz 0 gs=[]:=List.eq_nil_of_length_eq_zero (by omega);have E2:Region.ready .any ops hz=[]:=by
   rw[List.eq_nil_iff_forall_not_mem];intro i hi;unfold Region.ready at hi;simp only[mD,List.mem_range,cz,rW]at hi;obtain⟨J,U,_⟩:=hi;have aw:hz.getD i false=false:=by simp only[Array.getD_eq_getD_getElem?]at U⊢;rw[Array.getElem?_eq_getElem (by omega)]at U⊢;simpa using U
   obtain⟨nR,oS,g,_,aB,_⟩:=LS (by omega) aw gs 0 (by omega) (by omega);rw[aeE]at aB;simp at aB
  exact⟨E2,RQ hz A a w ef sk aL E2⟩
 |succ fuel bS=>
  intro hz A a w ef aQ aI sk aL;refine⟨RQ hz A a w ef sk aL,fun i hi=>?_⟩;unfold Region.ready at hi;simp only[mD,List.mem_range,cz,rW]at hi;obtain⟨J,U,ao⟩:=hi;have aw:hz.getD i false=false:=by simp only[Array.getD_eq_getD_getElem?]at U⊢;rw[Array.getElem?_eq_getElem (by omega)]at U⊢;simpa using U
  have av:ops[i]? =some ops[i]:=Array.getElem?_eq_getElem J;have RS:∀e∈ops[i].after.toList,Region.binds .any e=true→hz.getD e.on false=true:=by rw[av]at ao;simp only[nQ,j9]at ao;rw[←Array.all_toList,jc]at ao;intro e he ae;simpa[ae]using ao e he
  obtain⟨nR,oS,g,ak,aB,bf,dd⟩:=LS (by omega) aw gs 0 (by omega) (by omega);simp only[Nat.sub_zero]at ak dd;rw[aB]at sk;obtain⟨x,ab,adO⟩:=NT nR oS A (fun y aG=>by
   obtain⟨f1,f2,f3,f4⟩:=dd y aG;rcases US aeK i g ak y.1 y.2 (by simpa using f3) (by simpa using f1)with h|h
   ·have:=agk aQ i ops[i] av RS y.1 h;rw[f4]at this;cases this
   ·exact h) sk
  obtain⟨o',g1,g2⟩:=Rv kk i g ak;have:o'=ops[i]:=by rw[ta,av]at g1;exact(fh g1).symm
  subst this;refine XM aN av g2 ab aL fun bm w' df=>?_;refine bS (hz.setIfInBounds i true) (A.do x) bm w' (by simpa using ef) ?_ ?_ (by rw[bf];exact adO) df
  ·intro k o ad au e he ae;rw[Ev (by omega)]at au⊢;split
   ·rfl
   ·by_cases ve:i=k
    ·subst ve;rw[av]at ad;cases ad;exact RS e he ae
    ·rw[if_neg ve]at au;exact aQ k o ad au e he ae
  ·rw[bf];rw[aB]at aI;simp at aI⊢;omega
def wU(n0 d:Nat)(st:bq):Prop:= .loc (n0+d)∉st.o∧look (.loc (n0+d)) st.b=none∧look (.loc (n0+d)) st.e=none
def fO.loadO(q:Bool)(t:List (Nat×ah)):fO→Prop
 | .load _ _ x=>q=true∨xu (cm t x)=true
 | .loadB _ _ _=>True
 | .mgetB _ _ _ _ _=>True
 | .mget _ _ _ _ _=>q=true
 | .ment _=>q=true
 | .mlen _=>q=true
 |_=>True
def lO(q:Bool)(nw:List Nat)(n0:Nat)(st:bq):ek→Prop
 | .v _ i=>i.loadO q st.t
 | .box d none _=>wU n0 d st
 | .alloc d none _=>wU n0 d st
 | .box _ (some _) _=>eo
 | .alloc _ (some _) _=>eo
 | .store _ x _=>match cm st.t x with| .ptr _ _=>True|_=>eo
 | .bslm _ _ _ _ _=>eo
 | .mks _ _ _ _ _ _=>eo
 | .appm _ _ _ _ x _=>match cm st.t x with| .row _ _ _=>True|_=>eo
 | .storeE _ _ _=>True
 | .mkmap _ none=>eo
 | .mkmap _ (some m)=>m∈nw∧look (.obj m) st.b=none∧look (.obj m) st.e=none
 | .mput _ _ _ _=>True
 | .range _ _ _=>eo
 | .bsl d _ _ _=>wU n0 d st
 | .app d _ _ x _=>match cm st.t x with
  | .slice _ .nil _=>wU n0 d st
  | .slice _ (.own k) _=>(look k st.e).bind (·.xs)=none
  |_=>True
def oZ(n0:Nat):ek→aH
 | .mkmap _ (some m)=>.obj m
 | .v d _| .box d _ _| .alloc d _ _| .bsl d _ _ _| .app d _ _ _ _| .bslm d _ _ _ _| .appm d _ _ _ _ _| .mkmap d _| .range d _ _| .mks d _ _ _ _ _=>.loc (n0+d)
 | .store _ _ _| .mput _ _ _ _| .storeE _ _ _=>.loc n0
def afQ(nw:List Nat)(st:bq)(s ai:cI)(rm:Option aH):Prop:=(∀k,(look k ai.b).isSome→(look k s.b).isSome∨rm=some k)∧(∀k,(look k ai.e).isSome→(look k s.e).isSome∨rm=some k)∧(∀k,(look k s.b).isSome→(look k ai.b).isSome)∧(∀k,(look k s.e).isSome→(look k ai.e).isSome)∧
 (∀k,rm=some k→(∃j,j∈nw∧k= .obj j)∧look k st.b=none∧look k st.e=none∧((look k ai.b).isSome∨(look k ai.e).isSome))
def hX(P:cB)(q:Bool)(nw:List Nat)(n:Nat)(args:List ah)(st:bq)(d:Option Nat)(K:bq→Prop):Prop:=
 (∃cG r,d=some cG∧wU st.n cG st∧aJ (fun _=>eo) args∧Hi P n (st.n+cG) args ⟨[],[]⟩ (fun eJ dJ=>eJ=r∧dJ=⟨[],[]⟩)∧K {st with t:=put cG r st.t,o:= .loc (st.n+cG)::st.o})∨
 ∃s ai r rm,gA (inObs s) s.b st.b∧oE (inObs s) s.e st.e∧ij s∧ij ai∧afQ nw st s ai rm∧aJ (inObs s) args∧bN P n args s (fun eJ dJ=>eJ=r∧dJ=ai)∧(q=true→ai.b=[]∧ai.e=[])∧K {after st s ai d r with o:=st.o}
def kf(P:cB)(q:Bool)(nw:List Nat)(n0:Nat)(st:bq)(K:bq→Prop):eb→Prop
 | .s i=>match eE (oZ n0 i) st.n (oZ n0 i::st.o) st i with
  |some (c,st')=>lO q nw n0 st i∧c∧K st'
  |none=>eo
 | .call d f xs=>match cm st.t f with
  | .func n dp=>hX P q nw n (cR (xs.map (cm st.t)++dp)) st d K
  |_=>eo
 | .next _ _=>eo
def hH(P:cB)(q:Bool)(nw:List Nat)(n0:Nat):List c5→bq→(bq→Prop)→Prop
 |[],st,K=>K st
 |⟨none,i⟩::r,st,K=>kf P q nw n0 st (fun st'=>hH P q nw n0 r st' K) i
 |⟨some (s,want),i⟩::r,st,K=>match get s st.t with
  | .bool b=>(b=want→kf P q nw n0 {st with t:=put s (.bool want) st.t} (fun st'=>hH P q nw n0 r st' K) i)∧(b= !want→hH P q nw n0 r {st with t:=eQ i.dst (.tuple []) (put s (.bool !want) st.t)} K)
  | .tuple []=>hH P q nw n0 r {st with t:=eQ i.dst (.tuple []) st.t} K
  |_=>eo
structure r2 (nw:List Nat) (n0 N:Nat) (pg:List aH) (st:bq) (A:de):Prop where
 like:lb st A
 n:st.n=n0
 F:∀k,fresh n0 st.o k→(∀j∈nw,k≠ .obj j)→A.F k
 o:∀k∈st.o,k∈pg∨(∃d,d<N∧k= .loc (n0+d))∨ ∃j∈nw,k= .obj j
def AN(nw:List Nat)(A:de):Prop:= ∀j∈nw,A.b (.obj j)=none→A.e (.obj j)=none→A.F (.obj j)
theorem AN.do{P:cB}{q:Bool}{n0:Nat}{nw:List Nat}{A:de}(h:AN nw A){g:c5}{x:kC}(ab:kD P q n0 g A x):AN nw (A.do x):=by
 intro j af ae he;refine⟨h j af (Ig ae) (Ih he),fun ql=>?_⟩;rcases(MA ab).r _ ql with⟨d,_,e⟩|⟨_,_,ag⟩
 ·cases e
 ·rcases ag with ag|ag
  ·obtain⟨y,aG⟩:=fD.1 ag;simp[de.do,ig,aG]at ae
  ·obtain⟨y,aG⟩:=fD.1 ag;simp[de.do,ig,aG]at he
theorem Qx{P:cB}{q:Bool}{nw:List Nat}{n0 N:Nat}{pg:List aH}{i:eb}(aQ:∀d,i.dst=some d→d<N){st:bq}{A:de}(h:r2 nw n0 N pg st A)(n5:AN nw A){K:bq→Prop}(he:kf P q nw n0 st K i):∃x st',ep P q n0 i A x∧K st'∧r2 nw n0 N pg st' (A.do x):=by
 have au:=h.like;have w8:∀d,wU n0 d st→(A.F (.loc (n0+d))∧A.b (.loc (n0+d))=none∧A.e (.loc (n0+d))=none):=fun d aI=>⟨h.F _ ⟨by simp,aI.1⟩ (fun _ _ e=>by cases e),by rw[←au.b];exact aI.2.1,by rw[←au.e];exact aI.2.2⟩;have mO:∀(d:Option Nat) (p:ah) (bw:List (aH×List ah)) (ew:List (aH×fF)) (κ:aH),∀k,fresh n0 (κ::st.o) k→(∀j∈nw,k≠ .obj j)→(A.do ⟨d,p,bw,ew,some κ⟩).F k:=fun d p bw ew κ k ad af=>⟨h.F k (u3 k ad).1 af,fun e=>(u3 k ad).2 (fh e).symm⟩;have wY:∀(d:Option Nat) (p:ah) (bw:List (aH×List ah)) (ew:List (aH×fF)),∀k,fresh n0 st.o k→(∀j∈nw,k≠ .obj j)→(A.do ⟨d,p,bw,ew,none⟩).F k:=fun d p bw ew k ad af=>⟨h.F k ad af,by simp⟩;have lr:∀d,d<N→∀k∈aH.loc (n0+d)::st.o,k∈pg∨(∃d,d<N∧k= .loc (n0+d))∨ ∃j∈nw,k= .obj j:=fun d aQ k ad=>by
  rcases fU.1 ad with rfl|ad
  ·exact .inr (.inl ⟨d,aQ,rfl⟩)
  ·exact h.o k ad
 cases i with
 |s i=>
  cases i with
  |v d i=>
   simp only[kf,eE]at he;cases aK:ha st i with
   |none=>simp[aK]at he
   |some Ic=>
    obtain⟨c,p⟩:=Ic;simp only[aK]at he;obtain⟨J,U,ao⟩:=he;refine⟨⟨some d,p,[],[],none⟩,_,⟨c,p,by rw[←WU au];exact aK,U,fun nB=>?_,rfl⟩,ao,Kt au d p,h.n,wY _ _ _ _,h.o⟩;cases i<;>simp only[fO.isLoad]at nB<;>try(cases nB;done)
    case mget=>exact .inr (.inl J)
    case ment=>exact .inr (.inl J)
    case mlen=>exact .inr (.inl J)
    case loadB=>exact .inl rfl
    case mgetB=>exact .inl rfl
    simp only[lO,fO.loadO,iD au]at J;exact .inr (by simpa only[fO.ptrOf]using J)
  |box d key v=>
   cases key with
   |some m=>simp only[kf,eE,lO,false_and]at he
   |none=>simp only[kf,eE,lO,oZ]at he;obtain⟨J,U,ao⟩:=he;rw[iD au]at U;refine⟨_,_,⟨w8 d J,U,rfl⟩,ao,?_,h.n,mO _ _ _ _ _,lr d (aQ d rfl)⟩;rw[iD au];exact zE au d _ _ _ _ _ _
  |alloc d key z=>
   cases key with
   |some m=>simp only[kf,eE,lO,false_and]at he
   |none=>simp only[kf,eE,lO,oZ]at he;obtain⟨J,U,ao⟩:=he;exact⟨_,_,⟨w8 d J,rfl⟩,ao,zE au d _ _ _ _ _ _,h.n,mO _ _ _ _ _,lr d (aQ d rfl)⟩
  |store sz u v=>
   simp only[kf,eE]at he;cases hu:cm st.t u with
   |ptr k off=>
    cases ae:look k st.b with
    |none=>simp[hu,ae]at he
    |some cs=>simp only[hu,ae]at he;obtain⟨J,U,ao⟩:=he;rw[iD au]at U hu;refine⟨⟨none,.junk,[(k,nH cs off (cells (dv A.t v)))],[],none⟩,_,⟨k,off,cs,hu,by rw[←au.b];exact ae,U,rfl⟩,ao,?_,h.n,wY _ _ _ _,h.o⟩;rw[iD au];exact FB au k _ _
   |_=>
    exfalso;simp only[hu]at he;split at he
    ·have:=he.1;simp[lO,hu]at this
    ·exact he
  |bsl d sz el xs=>simp only[kf,eE,lO,oZ]at he;obtain⟨J,U,ao⟩:=he;rw[tA au]at U;refine⟨_,_,⟨w8 d J,U,rfl⟩,ao,?_,h.n,mO _ _ _ _ _,lr d (aQ d rfl)⟩;rw[tA au];exact vE au d _ _ _ _ _ _
  |app d sz el u v=>
   simp only[kf,eE]at he;cases hu:cm st.t u with
   |slice dF tag xs=>
    cases aK:cm st.t v with
    |slice jb kM ys=>
     simp only[hu,aK]at he;by_cases fb:dF=sz∧jb=sz
     ·obtain⟨rfl,rfl⟩:=fb;rw[iD au]at hu aK;cases tag with
      |no=>simp at he
      |tr k j=>simp at he
      |lo k=>simp at he
      |nil=>simp only[and_self,if_true,lO,iD au,hu,oZ]at he;obtain⟨J,U,ao⟩:=he;exact⟨_,_,⟨.nil,xs,kM,ys,hu,aK,.inr ⟨rfl,U,w8 d J,rfl⟩⟩,ao,vE au d _ _ _ _ _ _,h.n,mO _ _ _ _ _,lr d (aQ d rfl)⟩
      |own k=>
       cases ad:look k st.e with
       |none=>simp[ad]at he
       |some o=>simp only[and_self,if_true,ad]at he;obtain⟨J,U,ao⟩:=he;exact⟨_,_,⟨.own k,xs,kM,ys,hu,aK,.inl ⟨k,o,rfl,by rw[←au.e];exact ad,⟨by simpa[lO,iD au,hu,ad]using J,U⟩,rfl⟩⟩,ao,vE au d _ _ _ _ _ _,h.n,wY _ _ _ _,h.o⟩
     ·simp[fb]at he
    |_=>simp[hu,aK]at he
   |_=>simp[hu]at he
  |bslm d key sz el xs=>simp only[kf,eE,lO,false_and]at he
  |mks d key sz el z x=>simp only[kf,eE,lO,false_and]at he;split at he<;>simp at he
  |appm d key sz el u v=>
   simp only[kf,eE]at he;cases hu:cm st.t u with
   |row dF k n=>
    cases aK:cm st.t v with
    |slice jb kM ys=>
     simp only[hu,aK,r7]at he;by_cases fb:dF=sz∧jb=sz
     ·obtain⟨rfl,rfl⟩:=fb;rw[iD au]at hu aK;simp only[and_self,if_true]at he;cases ad:look k st.e with
      |none=>simp[ad]at he
      |some o=>
       obtain⟨n',fP,wa,Lg⟩:=o;cases Lg with
       |none=>simp[ad]at he
       |some xs=>
        simp only[ad]at he;by_cases w4:n'=n∧fP=el∧wa=jb
        ·obtain⟨rfl,rfl,rfl⟩:=w4;simp only[and_self,if_true]at he;obtain⟨J,U,ao⟩:=he;exact⟨_,_,⟨k,n',xs,kM,ys,hu,aK,by rw[←au.e];exact ad,U,rfl⟩,ao,vE au d _ _ _ _ _ _,h.n,wY _ _ _ _,h.o⟩
        ·simp[w4]at he
     ·simp[fb]at he
    |_=>simp[hu,aK,r7]at he
   |slice dF tag xs=>
    exfalso;simp only[hu]at he;split at he
    ·have:=he.1;simp[lO,hu]at this
    ·exact he
   |_=>simp[hu,r7]at he
  |storeE sz u v=>
   simp only[kf,eE]at he;cases hu:cm st.t u with
   |rptr dF k n i f=>
    cases ad:look k st.e with
    |none=>simp[hu,qK,ad]at he
    |some o=>
     obtain⟨n',el,wa,Lg⟩:=o;cases Lg with
     |none=>simp[hu,qK,ad]at he
     |some xs=>
      simp only[hu,qK,ad]at he;by_cases w4:n'=n∧wa=dF
      ·obtain⟨rfl,rfl⟩:=w4;simp only[and_self,if_true]at he;cases bn:xs[i]? with
       |none=>simp[bn]at he
       |some q=>simp only[bn]at he;obtain⟨J,U,ao⟩:=he;rw[iD au]at U hu;refine⟨⟨none,.junk,[],[(k,⟨n',el,wa,some (xs.set i (my q f (cells (dv A.t v))))⟩)],none⟩,_,⟨k,n',i,f,el,wa,xs,q,hu,by rw[←au.e];exact ad,bn,U,rfl⟩,ao,?_,h.n,wY _ _ _ _,h.o⟩;rw[iD au];exact TR au k _ _
      ·simp[w4]at he
   |_=>simp[hu,qK]at he
  |mkmap d key=>
   cases key with
   |none=>simp only[kf,eE,lO,false_and]at he
   |some m=>
    simp only[kf,eE,lO,oZ]at he;obtain⟨⟨bB,J,U⟩,_,ao⟩:=he;rw[au.b]at J;rw[au.e]at U;refine⟨_,_,⟨⟨n5 m bB J U,J,U⟩,rfl⟩,ao,zE au d _ _ _ _ _ _,h.n,mO _ _ _ _ _,fun k ad=>?_⟩;rcases fU.1 ad with rfl|ad
    ·exact .inr (.inr ⟨m,bB,rfl⟩)
    ·exact h.o k ad
  |mput b9 u k v=>
   simp only[kf,eE,lO]at he;cases hu:cm st.t u with
   |gmap m=>
    cases ae:look m st.b with
    |none=>simp[hu,ae]at he
    |some cs=>
     cases hm:ov b9 (cm st.t k) (cm st.t v) cs with
     |none=>simp[hu,ae,hm]at he
     |some cs'=>simp only[hu,ae,hm]at he;rw[iD au]at hu;rw[iD au,iD au]at hm;exact⟨⟨none,.junk,[(m,cs')],[],none⟩,_,⟨m,cs,cs',hu,by rw[←au.b];exact ae,hm,rfl⟩,he.2.2,FB au m _ _,h.n,wY _ _ _ _,h.o⟩
   |_=>simp[hu]at he
  |range d key x=>simp only[kf,lO,false_and]at he;split at he<;>exact he.elim
 |next d x=>simp only[kf]at he
 |call d f xs=>
  simp only[kf]at he;cases aI:cm st.t f with
  |func n dp=>
   simp only[aI]at he;rw[iD au]at aI;rcases he with⟨cG,r,rfl,bH,cj,da,ie⟩|⟨s,ai,r,rm,bH,cj,da,ie,lM,oW,A1,YA,YB⟩
   ·rw[tA au]at cj da;have aw:=h.n;subst aw;refine⟨⟨some cG,r,[],[],some (.loc (st.n+cG))⟩,_,⟨n,dp,aI,.inr ⟨cG,r,rfl,w8 cG bH,cj,da,rfl⟩⟩,ie,TS au cG r _ _,rfl,mO _ _ _ _ _,lr cG (aQ cG rfl)⟩
   rw[tA au]at oW A1;obtain⟨aS,bp,bW,dy,c0⟩:=lM;refine⟨⟨d,r,ai.b,ai.e,rm⟩,_,⟨n,dp,aI,.inl ⟨⟨s,ai,r,rm,fun k cs ad=>⟨by rw[←au.b];exact(bH k cs ad).1,(bH k cs ad).2.2⟩,fun k o ad=>⟨by rw[←au.e];exact(cj k o ad).1,(cj k o ad).2.2⟩,da,ie,⟨aS,bp,bW,dy,fun k ad=>?_⟩,oW,A1,rfl⟩,YA⟩⟩,YB,⟨fun i=>?_,fun k=>?_,fun k=>?_⟩,h.n,fun k ad af=>⟨h.F k ad af,fun ql=>?_⟩,h.o⟩
   ·obtain⟨⟨j,af,rfl⟩,aB,bf,dd⟩:=c0 k ad;rw[au.b]at aB;rw[au.e]at bf;exact⟨⟨j,rfl⟩,n5 j af aB bf,aB,bf,dd⟩
   ·simp only[after,de.do];cases d with
    |none=>simpa[eQ]using au.t i
    |some d=>simp only[eQ,o5,dG,au.t]
   ·simp only[after,de.do,ig,xD,ue];by_cases ag:(look k s.b).isSome
    ·have:=bW k ag;obtain⟨y,aG⟩:=fD.1 this;simp[ag,aG]
    ·cases aw:look k ai.b with
     |none=>simp only[ag,au.b];cases A.b k<;>simp
     |some y=>
      rcases aS k (by simp[aw])with h|h
      ·exact absurd h ag
      ·have:=c0 k h;simp[ag,this]
   ·simp only[after,de.do,ig,xD,ue];by_cases ag:(look k s.e).isSome
    ·have:=dy k ag;obtain⟨y,aG⟩:=fD.1 this;simp[ag,aG]
    ·cases aw:look k ai.e with
     |none=>simp only[ag,au.e];cases A.e k<;>simp
     |some y=>
      rcases bp k (by simp[aw])with h|h
      ·exact absurd h ag
      ·have:=c0 k h;simp[ag,this]
   ·obtain⟨⟨j,jh,rfl⟩,_⟩:=c0 k ql;exact af j jh rfl
  |_=>simp[aI]at he
def yH(N:Nat):List c5→Bool
 |[]=>true
 |g::r=>jf N g.i.dst&&yH N r
def yj:Nat→List c5→List (Nat×c5)
 |_,[]=>[]
 |k,g::r=>(k,g)::yj (k+1) r
theorem Ny{nw:List Nat}{n0 N:Nat}{pg:List aH}{st:bq}{A:de}(h:r2 nw n0 N pg st A){s:Nat}{p:ah}(ag:get s st.t=p):r2 nw n0 N pg {st with t:=put s p st.t} A:=by
 refine⟨⟨fun i=>?_,h.like.b,h.like.e⟩,h.n,h.F,h.o⟩;simp only[o5];split
 ·rename_i e;subst e;rw[←ag];exact h.like.t _
 ·exact h.like.t i
theorem Nz{nw:List Nat}{n0 N:Nat}{pg:List aH}{st:bq}{A:de}(h:r2 nw n0 N pg st A)(d:Option Nat):r2 nw n0 N pg {st with t:=eQ d (.tuple []) st.t} (A.do (k6 d)):=by
 refine⟨⟨fun i=>?_,fun k=>?_,fun k=>?_⟩,h.n,fun k ad af=>⟨h.F k ad af,by simp[k6]⟩,h.o⟩
 ·simp only[de.do,k6];cases d with
  |none=>simpa[eQ]using h.like.t i
  |some d=>simp only[eQ,o5,dG,h.like.t]
 ·simpa[de.do,ig,look,k6]using h.like.b k
 ·simpa[de.do,ig,look,k6]using h.like.e k
theorem Bc{P:cB}{q:Bool}{nw:List Nat}{n0 N:Nat}{pg:List aH}{K:bq→Prop}:∀(gs:List c5) (k:Nat),yH N gs=true→∀(st:bq) (A:de),r2 nw n0 N pg st A→AN nw A→hH P q nw n0 gs st K→uX P q n0 (fun gf=> ∃st',K st'∧r2 nw n0 N pg st' gf) (yj k gs) A
 |[],k,_,st,A,h,_,he=>⟨st,he,h⟩
 |⟨mN,i⟩::r,k,aQ,st,A,h,n5,he=>by
  simp only[yH,cz]at aQ;have sl:∀d,i.dst=some d→d<N:=fun d e=>by have:=aQ.1;rw[e]at this;simpa[jf]using this
  simp only[yj,uX];cases mN with
  |none=>simp only[hH]at he;obtain⟨x,st',J,U,ao⟩:=Qx sl h n5 he;have a1:kD P q n0 ⟨none,i⟩ A x:=J;exact⟨x,a1,Bc r (k+1) aQ.2 st' _ ao (n5.do a1) U⟩
  |some x9=>
   obtain⟨s,want⟩:=x9;simp only[hH]at he;split at he
   ·rename_i b ae;by_cases e:b=want
    ·subst e;obtain⟨x,st',J,U,ao⟩:=Qx sl (Ny h ae) n5 (he.1 rfl);have a1:kD P q n0 ⟨some (s,b),i⟩ A x:=by unfold kD;simp only[←h.like.t,ae];exact .inl ⟨trivial,J⟩
     exact⟨x,a1,Bc r (k+1) aQ.2 st' _ ao (n5.do a1) U⟩
    ·have fR:b= !want:=by cases b<;>cases want<;>simp at e⊢
     subst fR;have a1:kD P q n0 ⟨some (s,want),i⟩ A (k6 i.dst):=by unfold kD;simp only[←h.like.t,ae];exact .inr ⟨trivial,trivial⟩
     exact⟨k6 i.dst,a1,Bc r (k+1) aQ.2 _ _ (Nz (Ny h ae) i.dst) (n5.do a1) (he.2 rfl)⟩
   ·rename_i ae;have a1:kD P q n0 ⟨some (s,want),i⟩ A (k6 i.dst):=by unfold kD;simp only[←h.like.t,ae]
    exact⟨k6 i.dst,a1,Bc r (k+1) aQ.2 _ _ (Nz h i.dst) (n5.do a1) he⟩
   ·exact he.elim
theorem LR:∀(gs:List c5) (l:Array Bool) (k:Nat),(∀j,l.getD j false=false)→rem l k gs=yj k gs
 |[],_,_,_=>rfl
 |g::r,l,k,h=>by simp only[rem,h k,yj,LR r l (k+1) h];simp
def td(n:Nat)(o:List aH)(K:bq→Prop)(st:bq):Prop:=K {st with n:=n,o:=o}
theorem Good.like{pr:Nat→Prop}{w:World}{ν:bc}{b bO:List (aH×List ah)}{e fL:List (aH×fF)}(h:Good pr w ν b e)(ae:∀k,look k bO=look k b)(he:∀k,look k fL=look k e):Good pr w ν bO fL:=
 ⟨h.alt,fun k cs ad=>h.box k cs (by rw[←ae];exact ad),fun k bL bl J U=>h.inj k bL bl (by rw[←ae];exact J) (by rw[←ae];exact U),fun g o a1=>h.own g o (by rw[←he];exact a1),
  fun g e3 n n' v v' bl J U=>h.oinj g e3 n n' v v' bl (by rw[←he];exact J) (by rw[←he];exact U),fun g k n v bl J U=>h.obx g k n v bl (by rw[←he];exact J) (by rw[←ae];exact U),h.one,
  fun bl aN=>h.otr bl (aN.imp (fun⟨k,bD,a2⟩=>⟨k,by rw[←ae];exact bD,a2⟩) (fun⟨g,n,v,bD,a2⟩=>⟨g,n,v,by rw[←he];exact bD,a2⟩))⟩
theorem Qz{P:cB}(hm:P.follows .mixedOrders=true){bA:List (Nat×dC)}(aN:fM P bA=true){C:e8}{q:Bool}{nw:List Nat}{id:Nat}{ops:Array Oper}{gs:List c5}(kk:kh C.N bA ops.toList gs ops.toList=true)(EE:AU gs ops.toList=true)(iE:yH C.N gs=true)
  {K:bq→Prop} {Q:Exit→Act→World→Prop} (hU:∀st' bm w' bk,K st'→cO C st' bm w' bk→Q .normal bm w') {st:bq} {a:Act} {w:World} {ν:bc} (aeH:∀j∈nw,.obj j∉st.o) (he:hH P q nw st.n gs st (td (st.n+C.N) (nw.map aH.obj++st.o) K)) (aL:cO C st a w ν):(Code.region id ops true).wp P Q a w:=by
 refine wp_region_any hm ?_;have df:cO C st a {w with drawn:=w.drawn+1} ν:=aL.drawn _;let A:de:=⟨fun i=>get i st.t,fun k=>look k st.b,fun k=>look k st.e,fresh st.n st.o⟩
 have q6:r2 nw st.n C.N st.o st A:=⟨⟨fun _=>rfl,fun _=>rfl,fun _=>rfl⟩,rfl,fun k ad _=>ad,fun k ad=>.inl ad⟩;have sk:=Bc gs 0 iE st A q6 (fun j af _ _=>⟨trivial,aeH j af⟩) he;have od:∀j,(Array.replicate ops.size false).getD j false=false:=fun j=>by simp[Array.getD_eq_getD_getElem?,Array.getElem?_replicate];split<;>rfl
 refine Yb aN kk EE (q:=q) (n0:=st.n) (K:=fun gf=> ∃st',td (st.n+C.N) (nw.map aH.obj++st.o) K st'∧r2 nw st.n C.N st.o st' gf) ?_ ops.size _ A a _ (by simp) ?_ ?_ (by rw[LR gs _ 0 od];exact sk) ⟨st,ν,q6.like,fun k ad=>ad,df⟩
 ·rintro gf bm w' ⟨st',ad,bE⟩ ⟨arS,bk,oc,Bt,mj⟩;refine hU _ bm w' bk ad ⟨mj.good.like (fun k=>by rw[oc.b,←bE.like.b]) (fun k=>by rw[oc.e,←bE.like.e]),mj.fr,mj.defers,mj.size,fun i=>?_,fun k y9=>?_⟩
  ·have:=mj.slot i;rw[oc.t,←bE.like.t]at this;exact this
  ·refine mj.new k (Bt k (bE.F k ?_ fun j af e=>y9.2 (by subst e;exact List.mem_append_left _ (List.mem_map_of_mem af))));simp only at y9;refine⟨(IW (Nat.le_add_right st.n C.N) (fun _ h=>h) y9).1,fun jv=>?_⟩;rcases bE.o k jv with h|⟨d,aQ,rfl⟩|⟨j,af,rfl⟩;rotate_left 2
   ·exact y9.2 (List.mem_append_left _ (List.mem_map_of_mem af))
   ·exact y9.2 (List.mem_append_right _ h)
   ·have:=y9.1;simp at this;omega
 ·intro k o ad au;rw[od]at au;cases au
 ·rw[LR gs _ 0 od];have:∀(gs:List c5) k,(yj k gs).length=gs.length:=by
   intro gs;induction gs with
   |nil=>intro k;rfl
   |cons g r bS=>intro k;simp[yj,bS]
  rw[this];have:=I7 kk;simp at this;omega
def ev:List ah→Prop
 |[]=>True
 |p::cg=>(match p with| .slice _ _ xs=>xs.length≤lim| .str s=>s.length≤lim|_=>True)∧ev cg
def ec:ah→Prop
 | .slice _ _ xs=>xs.length≤lim
 | .str s=>s.length≤lim
 | .agg cs=>ev cs
 |_=>True
def eC:List ah→Prop
 |[]=>True
 |p::r=>ec p∧eC r
theorem LW{w:World}{ν:bc}:∀{cs:List ah} {us:List Value},cY w ν cs us→ev cs
 |[],_,_=>trivial
 |c::cs,us,h=>by
  simp only[cY]at h;obtain⟨u,ca,_,J,U⟩:=h;refine⟨?_,LW U⟩;cases c<;>simp only<;>have ao:=J.1<;>simp only[a7]at ao
  ·exact ao.2
  ·obtain⟨⟨a,cap,_,_,a8,_⟩,_⟩:=ao;exact a8.2
theorem VW{w:World}{ν:bc}{cs:List ah}{us:List Value}(h:iZ w ν cs us):hN cs=true→ev cs:=fun bI=>by rw[uo bI]at h;exact LW h
theorem V7{w:World}{ν:bc}{p:ah}{v:Value}(h:a7 w ν p v):ec p:=by
 cases p<;>simp only[ec]<;>simp only[a7]at h
 ·exact h.2
 ·obtain⟨⟨a,cap,_,_,a8,_⟩,_⟩:=h;exact a8.2
 ·obtain⟨us,_,U⟩:=h;exact LW U
theorem LY{w:World}{ν:bc}:∀{cs:List ah} {us:List Value},cK w ν cs us→eC cs
 |[],_,_=>trivial
 |c::cs,us,h=>by simp only[cK]at h;obtain⟨u,ca,_,J,U⟩:=h;exact⟨V7 J,LY U⟩
inductive C where
 |skip
 |region (gs:List c5)
 |drawn (q:Bool) (N:Nat) (gs:List c5)
 |drawnW (nw:List Nat) (N:Nat) (gs:List c5)
 |seq (a b:C)
 |cond (x:ds) (t e:C)
 |block (id:Nat) (c:C)
 |loop (c:C)
 |exit (id:Nat)
 |ret
 |pub (s:Nat) (c:C)
 |pubB (s:Nat) (c:C)
 |fg (pc:Bool) (s:Nat) (c:C)
 |fz (agg:Bool) (s:Nat) (c:C)
 |no
def CO(st:bq):ah→Option (ah×List (aH×fF))
 | .row sz k n=>match look k st.e with
  |some ⟨n',el,dF,some xs⟩=>if n'=n∧dF=sz then some (.slice sz (.own k) xs,cw k ⟨n,el,sz,none⟩ st.e)else none
  |_=>none
 |_=>none
def vR(st:bq)(s:Nat):Option bq:=
 match CO st (get s st.t)with
 |some (p,e)=>some {st with t:=put s p st.t,e:=e}
 |none=>none
def vQ(st:bq)(s:Nat):Option bq:=
 match get (s%1000) st.t with
 | .ptr k off=>match look k st.b with
  |some cs=>match cs[off+s/1000]? with
   |some p=>match CO st p with
    |some (zY,e)=>if hN cs then some {st with b:=cw k (cs.set (off+s/1000) zY) st.b,e:=e}else none
    |none=>none
   |none=>none
  |none=>none
 |_=>none
theorem LQ{C:e8}{st:bq}{a:Act}{w:World}{ν:bc}(h:cO C st a w ν){s:Nat}{p:ah}(ag:a7 w ν p (a.tmps.getD s undef)):cO C {st with t:=put s p st.t} a w ν:=by
 refine⟨h.good,h.fr,h.defers,h.size,fun i=>?_,h.new⟩;have:=h.slot i;simp only[o5];split
 ·rename_i e;subst e;exact ag
 ·exact this
theorem UZ{C:e8}{st:bq}{a:Act}{w:World}{ν:bc}(h:cO C st a w ν){p zY:ah}{e:List (aH×fF)}{v:Value}(bI:a7 w ν p v)(he:CO st p=some (zY,e)):
  ∃bk,cO C {st with e:=e} a w bk∧a7 w bk zY v∧ld w ν w bk:=by
 unfold CO at he;split at he
 ·rename_i sz k n;split at he
  ·rename_i n' el dF xs ad;split at he
   ·rename_i ay;obtain⟨rfl,rfl⟩:=ay;cases he;simp only[a7]at bI;obtain⟨_,au,n0,u,J,U,ao⟩:=bI;obtain⟨v0,fu,a6,bz,bU,cT⟩:=h.good.own k _ ad;rw[J]at a6;simp only[dG,jm]at a6;obtain⟨rfl,rfl⟩:=a6;have aK:v=u:=ao rfl;subst aK;obtain⟨c8,_,_⟩:=cT xs rfl;simp only at c8;obtain⟨g1,g2⟩:=h.publish ad rfl J (by rw[c8];exact au);refine⟨_,g1,g2,⟨fun b o bg=>⟨.inl bg,rfl⟩,fun j b _ af=>af,fun g n u _ iF=>⟨n,u,?_,.inl ⟨rfl,rfl⟩⟩,fun _ _ _=>rfl,fun _ _ _ _ h=>h⟩⟩;simp only[bc.withRowOf];split
    ·rename_i e;subst e;rw[J]at iF;exact iF
    ·exact iF
   ·cases he
  ·cases he
 ·cases he
def yN(pc:Bool):ah→ah
 | .slice sz tag xs=>.slice sz (if pc then tag else .no) (cR xs)
 |p=>dh p
theorem acs{w:World}{ν:bc}{pc:Bool}{p:ah}{v:Value}(h:a7 w ν p v):a7 w ν (yN pc p) v:=by
 have J:=kL p v h;cases p with
 |slice sz tag xs=>
  simp only[yN];cases pc with
  |false=>simpa only[gP,if_false,dh]using J
  |true=>
   simp only[if_true];simp only[a7,dh]at h J⊢;refine⟨J.1,fun e=>h.2.1 e,fun g e=>?_,fun k j e=>?_,fun k e=>?_⟩
   ·obtain⟨n,u,ak,aB,bf⟩:=h.2.2.1 g e;exact⟨n,u,ak,by rw[rO];exact aB,by rw[rO];exact bf⟩
   ·exact Ra _ _ (h.2.2.2.1 k j e)
   ·exact Ra _ _ (h.2.2.2.2 k e)
 |_=>exact J
theorem ai3{C:e8}{st st':bq}{a:Act}{w:World}{ν:bc}(h:cO C st a w ν){s:Nat}(he:vR st s=some st'):∃bk,cO C st' a w bk:=by
 unfold vR at he;split at he
 ·rename_i p e bI;cases he;obtain⟨bk,J,U,_⟩:=UZ h (h.slot s) bI;exact⟨_,LQ J U⟩
 ·cases he
theorem V3{w:World}{ν:bc}:∀{cs:List ah} {us:List Value} {i:Nat} {p q:ah} {v:Value},cY w ν cs us→cs[i]? =some p→us[i]? =some v→a7 w ν q v→cY w ν (cs.set i q) us
 |[],_,_,_,_,_,_,h,_,_=>by simp at h
 |c::cs,us,0,p,q,v,h,_,aK,bn=>by simp only[cY]at h;obtain⟨u,ca,rfl,J,U⟩:=h;simp only[List.getElem?_cons_zero,dG]at aK;subst aK;simp only[List.set_cons_zero,cY];exact⟨_,_,rfl,⟨bn,J.2⟩,U⟩
 |c::cs,us,i+1,p,q,v,h,bI,aK,bn=>by simp only[cY]at h;obtain⟨u,ca,rfl,J,U⟩:=h;simp only[List.set_cons_succ,cY];exact⟨_,_,rfl,J,V3 U (by simpa using bI) (by simpa using aK) bn⟩
theorem ai2{C:e8}{st st':bq}{a:Act}{w:World}{ν:bc}(h:cO C st a w ν){s:Nat}(he:vQ st s=some st'):∃bk,cO C st' a w bk:=by
 unfold vQ at he;split at he
 ·rename_i k agX ad;generalize agX+s/1000=off at he;split at he
  ·rename_i cs dr;split at he
   ·rename_i p bI;split at he
    ·rename_i zY e EZ;split at he
     ·rename_i sw;cases he;obtain⟨bl,us,el,g1,g2,g3,g4,g5⟩:=h.good.box k cs dr;rw[uo sw]at g5;have bC:off<us.toList.length:=by rw[pk g5];exact(fN.1 bI).1
      obtain⟨v,aK⟩:∃v,us.toList[off]? =some v:=⟨_,cf bC⟩;have zj:a7 w ν p v:=by have:=Ak off g5;rw[la (fN.1 bI).1,la bC]at this;simp only[cY]at this;obtain⟨u,ca,ak,aB,_⟩:=this;rw[(fN.1 bI).2]at aB;rw[(fN.1 aK).2]at ak;cases ak;exact aB.1
      obtain⟨bk,J,U,ao⟩:=UZ h zj EZ;have vo:cY w bk (cs.set off zY) us.toList:=V3 (V2 ao g5) bI aK U;have Ss:=Am vo;refine⟨bk,⟨J.good.alt,fun j eM af=>?_,fun j dD b af jh=>J.good.inj j dD b ?_ ?_,J.good.own,J.good.oinj,fun g j n v b a1 af=>J.good.obx g j n v b a1 ?_,J.good.one,fun bl ae=>J.good.otr bl (ae.imp (fun⟨bL,bD,a2⟩=>⟨bL,by rw[iI]at bD;split at bD;(rename_i e;subst e;simp[dr]);exact bD,a2⟩) id)⟩,J.fr,J.defers,J.size,J.slot,J.new⟩
      ·simp only at af;rw[iI]at af;split at af
       ·rename_i e;subst e;cases af;obtain⟨ic,ca,fP,f1,f2,f3,f4,f5⟩:=J.good.box k cs dr;have:ic=bl:=by have:=ao.bx k bl trivial g1;rw[this]at f1;cases f1;rfl
        subst this;rw[um sw]at g4 f4;rw[g4]at f4;injection f4 with f4;injection f4 with f4 f6 f7;refine⟨ic,us,el,f1,f2,f3,by rw[um Ss];exact g4,by rw[uo Ss];exact vo⟩
       ·exact J.good.box j eM af
      ·simp only at af;rw[iI]at af;split at af
       ·rename_i e;subst e;simp[dr]
       ·exact af
      ·simp only at jh;rw[iI]at jh;split at jh
       ·rename_i e;subst e;simp[dr]
       ·exact jh
      ·simp only at af;rw[iI]at af;split at af
       ·rename_i e;subst e;simp[dr]
       ·exact af
     ·cases he
    ·cases he
   ·cases he
  ·cases he
 ·cases he
def sa{α:Type}(k:aH)(l:List (aH×α)):List (aH×α):=match l with
 |[]=>[]
 |(i,x)::r=>if i=k then sa k r else(i,x)::sa k r
theorem Ku{α:Type}(k j:aH):∀l:List (aH×α),look j (sa k l)=if j=k then none else look j l
 |[]=>by simp[sa,look]
 |(i,x)::r=>by
  simp only[sa];by_cases h:i=k
  ·subst h;rw[if_pos rfl,Ku i j r];by_cases U:j=i
   ·simp[U]
   ·have:¬i=j:=fun e=>U e.symm;simp[look,U,this]
  ·rw[if_neg h];simp only[look];by_cases U:i=j
   ·subst U;simp[h]
   ·simp only[U,if_false];exact Ku k j r
def IZ(agg:Bool):List ah→Option ah
 |[p]=>if agg then some (.agg [p])else some p
 |cs=>if agg then some (.agg cs)else none
def u4(st:bq)(agg:Bool)(s:Nat):Option bq:=
 match get s st.t with
 | .ptr k 0=>match look k st.b with
  |some cs=>if hN cs then match IZ agg cs with
    |some x=>some {st with t:=put s (.eptr x) st.t,b:=sa k st.b}
    |none=>none
   else none
  |none=>none
 |_=>none
theorem aiR{u:Value}(h:u.oneCell'=true):u.cells.toList=[u]:=by cases u<;>first|rfl|(simp[Value.oneCell']at h)
theorem TI{w:World}{A:Nat→Nat→Prop}{b:Nat}{us:Array Value}{el:fT}(ae:w.heap[b]? =some (.cells us el))(bg:∀o,o<us.size→A b o):∀(ba:List Value) (off:Nat),us.toList.drop off=ba→lA w A b off ba
 |[],_,_=>trivial
 |v::ba,off,h=>by
  have bC:off<us.toList.length:=by
   rcases Nat.lt_or_ge off us.toList.length with J|J
   ·exact J
   ·rw[List.drop_eq_nil_of_le J]at h;cases h
  have U:=la bC;rw[h]at U;injection U with U ao;refine⟨⟨bg off (by simpa using bC),?_⟩,TI ae bg ba (off+1) ao.symm⟩;have vj:off<us.size:=by simpa using bC
  simp only[World.cell?,ae,jW,gP,if_false];rw[U];simp[vj]
theorem acG{C:e8}{st st':bq}{a:Act}{w:World}{ν:bc}(h:cO C st a w ν){agg:Bool}{s:Nat}(he:u4 st agg s=some st'):∃bk,cO C st' a w bk:=by
 unfold u4 at he;split at he
 ·rename_i k ad;split at he
  ·rename_i cs dr;split at he
   ·rename_i sw;split at he
    ·rename_i x ab;cases he;obtain⟨bl,us,el,g1,g2,g3,g4,g5⟩:=h.good.box k cs dr;rw[uo sw]at g5;rw[um sw]at g4;have bC:bl<w.heap.size:=by
      rcases Nat.lt_or_ge bl w.heap.size with J|J
      ·exact J
      ·rw[Array.getElem?_eq_none J]at g4;cases g4
     let bk:bc:={ν with A:=fun b o=>ν.A b o∨(b=bl∧o<us.size)}
     have av:ld w ν w bk:=⟨fun b o bg=>⟨.inl bg,rfl⟩,fun j b _ af=>af,fun g n u _ iF=>⟨n,u,iF,.inl ⟨rfl,rfl⟩⟩,fun _ _ _=>rfl,fun _ _ _ _ h=>h⟩;have hx:∀j eM,look j (sa k st.b)=some eM→j≠k∧look j st.b=some eM:=fun j eM af=>by
      rw[Ku]at af;split at af
      ·cases af
      ·rename_i e;exact⟨e,af⟩
     have ES:∀j,(look j (sa k st.b)).isSome→(look j st.b).isSome:=fun j af=>by obtain⟨eM,iE⟩:=fD.1 af;simp[(hx j eM iE).2]
     have qo:∀(g:aH) (n:Nat) (v:Value),(look g st.e).isSome→ν.ow g=some (n,v)→v.ownBlock=some bl→eo:=fun g n v J U ao=>h.good.obx g k n v bl J (by simp[dr]) U ao g1;have lX:a7 w bk (.eptr x) (a.tmps.getD s undef):=by
      have ag:=h.slot s;rw[ad]at ag;simp only[a7]at ag⊢;obtain⟨bO,a6,bz⟩:=ag;rw[g1]at a6;cases a6;have au:lA w bk.A bl 0 us.toList:=TI g4 (fun o av=>.inr ⟨rfl,av⟩) _ 0 rfl;have g6:cY w bk cs us.toList:=V2 av g5;unfold IZ at ab;split at ab
      ·rename_i p;simp only[cY]at g6;obtain⟨u,ca,ak,aB,bf⟩:=g6;subst bf;split at ab
       ·cases ab;exact⟨bl,0,.agg us,bz,by simp only[a7];exact⟨us,rfl,by rw[ak];simp only[cY];exact⟨u,[],rfl,aB,rfl⟩⟩,by simpa[po]using au⟩
       ·cases ab;refine⟨bl,0,u,bz,aB.1,?_⟩;rw[aiR aB.2,←ak];exact au
      ·split at ab
       ·cases ab;exact⟨bl,0,.agg us,bz,by simp only[a7];exact⟨us,rfl,g6⟩,by simpa[po]using au⟩
       ·cases ab
     refine⟨bk,LQ (ν:=bk) (st:={st with b:=sa k st.b}) ⟨⟨fun b o bg=>?_,fun j eM af=>?_,fun j dD b J U=>h.good.inj j dD b (ES j J) (ES dD U),fun g o a1=>?_,h.good.oinj,fun g j n v b J U=>h.good.obx g j n v b J (ES j U),h.good.one,fun b aN=>h.good.otr b (aN.imp (fun⟨j,bD,a2⟩=>⟨j,ES j bD,a2⟩) id)⟩,⟨h.fr.os,h.fr.tape,h.fr.output,h.fr.size,h.fr.block,fun b o bg=>⟨.inl (h.fr.keep b o bg).1,(h.fr.keep b o bg).2⟩,fun b o bg=>?_,h.fr.obj,h.fr.obn,h.fr.row,h.fr.obr,h.fr.trd,h.fr.trb,h.fr.trn,h.fr.sh⟩,h.defers,h.size,fun i=>x0 av (h.slot i),h.new⟩ lX⟩
     ·rcases bg with bg|⟨rfl,_⟩
      ·exact h.good.alt b o bg
      ·exact bC
     ·obtain⟨cF,jh⟩:=hx j eM af;obtain⟨ic,ca,fP,f1,f2,f3,f4,f5⟩:=h.good.box j eM jh;refine⟨ic,ca,fP,f1,f2,fun o bg=>?_,f4,p0 av f5⟩;rcases bg with bg|⟨rfl,_⟩
      ·exact f3 o bg
      ·exact cF (h.good.inj j k _ (by simp[jh]) (by simp[dr]) f1 g1)
     ·obtain⟨v0,fu,ak,aB,bf,dd⟩:=h.good.own g o a1;have u7:∀b,v0.ownBlock=some b→∀j,bk.A b j→ν.A b j:=fun b ae j bg=>by
       rcases bg with bg|⟨rfl,_⟩
       ·exact bg
       ·exact(qo g _ v0 (by simp[a1]) ak ae).elim
      exact⟨v0,fu,ak,aB,fun b ae=>⟨(bf b ae).1,fun j bg=>(bf b ae).2 j (u7 b ae j bg)⟩,rL av u7 dd⟩
     ·rcases bg with bg|⟨rfl,_⟩
      ·exact h.fr.fresh b o bg
      ·exact .inr g2
    ·cases he
   ·cases he
  ·cases he
 ·cases he
def rK(st:bq)(x:ds)(b:Bool):bq:=match x with
 | .t i=>{st with t:=put i (.bool b) st.t}
 | .c _=>st
def cU(P:cB)(ob:List aH):C→(Exit→bq→Prop)→bq→Prop
 | .skip,Q,st=>Q .normal st
 | .region gs,Q,st=>hS P gs st (Q .normal)
 | .drawn q N gs,Q,st=>hH P q [] st.n gs st (td (st.n+N) st.o (Q .normal))
 | .drawnW nw N gs,Q,st=>(∀j∈nw,.obj j∉st.o)∧hH P false nw st.n gs st (td (st.n+N) (nw.map aH.obj++st.o) (Q .normal))
 | .seq a b,Q,st=>cU P ob a (fun e st'=>match e with| .normal=>cU P ob b Q st'|e=>Q e st') st
 | .cond x t e,Q,st=>match cm st.t x with
  | .bool b=>(b=true→cU P ob t Q (rK st x true))∧(b=false→cU P ob e Q (rK st x false))
  |_=>eo
 | .block id c,Q,st=>cU P ob c (fun e st'=>match e with| .exit j=>if j=id then Q .normal st' else Q (.exit j) st'|e=>Q e st') st
 | .loop c,Q,st=> ∃(gR:Nat→bq→Prop) (m:Nat) (v7:bq),iA ob st v7∧gR m v7∧
   ∀k s,gR k s→(∀i,ec (get i s.t))→(∀j cs,look j s.b=some cs→hN cs=true→ev cs)→cU P ob c (fun e ai=>match e with| .normal=> ∃bL oA,bL<k∧iA ob ai oA∧gR bL oA|e=>Q e ai) s
 | .exit id,Q,st=>Q (.exit id) st
 | .ret,Q,st=>Q .ret st
 | .pub s c,Q,st=>match vR st s with
  |some st'=>cU P ob c Q st'
  |none=>eo
 | .pubB s c,Q,st=>match vQ st s with
  |some st'=>cU P ob c Q st'
  |none=>eo
 | .fg pc s c,Q,st=>cU P ob c Q {st with t:=put s (yN pc (get s st.t)) st.t}
 | .fz e2 s c,Q,st=>match u4 st e2 s with
  |some st'=>cU P ob c Q st'
  |none=>eo
 | .no,_,_=>eo
def hp(N:Nat)(bA:List (Nat×dC)):C→Code→Bool
 | .skip,.skip=>true
 | .region gs,.region _ ops false=>kh N bA ops.toList gs ops.toList
 | .drawn _ N' gs,.region _ ops true=>N'==N&&kh N bA ops.toList gs ops.toList&&AU gs ops.toList&&yH N gs
 | .drawnW _ N' gs,.region _ ops true=>N'==N&&kh N bA ops.toList gs ops.toList&&AU gs ops.toList&&yH N gs
 | .seq a b,.seq x y=>hp N bA a x&&hp N bA b y
 | .cond x t e,.cond o dJ fL=>eg x o&&hp N bA t dJ&&hp N bA e fL
 | .block id c,.block B5 cl=>id==B5&&hp N bA c cl
 | .loop c,.loop cl=>hp N bA c cl
 | .exit id,.exit B5=>id==B5
 | .ret,.ret=>true
 | .pub _ c,cl=>hp N bA c cl
 | .pubB _ c,cl=>hp N bA c cl
 | .fg _ _ c,cl=>hp N bA c cl
 | .fz _ _ c,cl=>hp N bA c cl
 | .no,_=>true
 |_,_=>false
theorem Rw{N:Nat}{bA:List (Nat×dC)}{ops:List Oper}:∀{gs:List c5} {os:List Oper},kh N bA ops gs os=true→gs.length=os.length
 |[],[],_=>rfl
 |[],_::_,h=>by simp[kh]at h
 |_::_,[],h=>by simp[kh]at h
 |g::gs,o::os,h=>by simp only[kh,cz]at h;simp[Rw h.2]
def XL(P:cB)(C:e8)(c:Code)(Q:Exit→bq→Prop)(st:bq):Prop:= ∀a w ν,cO C st a w ν→c.wp P (fun e bm w'=> ∃st' bk,Q e st'∧cO C st' bm w' bk) a w
theorem qm{P:cB}(hm:P.follows .mixedOrders=true){bA:List (Nat×dC)}(aN:fM P bA=true){X:e8}:∀(c:C) (code:Code) (Q:Exit→bq→Prop) (st:bq),hp X.N bA c code=true→cU P X.ob c Q st→XL P X code Q st
 | .skip,code,Q,st,av,he=>by
  cases code<;>simp only[hp]at av<;>try cases av
  intro a w ν aL;exact wp_skip ⟨st,ν,he,aL⟩
 | .region gs,code,Q,st,av,he=>by
  cases code<;>try(simp[hp]at av;done)
  rename_i id ops draw;cases draw<;>simp only[hp]at av
  ·intro a w ν aL;refine wp_region ?_;have au:gs.length=ops.size:=by simpa using Rw av
   rw[List.range_eq_range',←au];exact QA aN (K:=Q .normal) (fun st' bm w' bk J U=>⟨st',bk,J,U⟩) gs ops.toList 0 (by simp) av st a w ν he aL
  ·cases av
 | .drawn q N gs,code,Q,st,av,he=>by
  cases code<;>try(simp[hp]at av;done)
  rename_i id ops draw;cases draw<;>simp only[hp]at av
  ·cases av
  ·simp only[cz,dL]at av;obtain⟨⟨⟨rfl,J⟩,U⟩,ao⟩:=av;intro a w ν aL;exact Qz hm aN J U ao (nw:=[]) (K:=Q .normal) (fun st' bm w' bk J U=>⟨st',bk,J,U⟩) (by simp) he aL
 | .drawnW nw N gs,code,Q,st,av,he=>by
  cases code<;>try(simp[hp]at av;done)
  rename_i id ops draw;cases draw<;>simp only[hp]at av
  ·cases av
  ·simp only[cz,dL]at av;obtain⟨⟨⟨rfl,J⟩,U⟩,ao⟩:=av;intro a w ν aL;exact Qz hm aN J U ao (nw:=nw) (K:=Q .normal) (fun st' bm w' bk J U=>⟨st',bk,J,U⟩) he.1 he.2 aL
 | .seq x y,code,Q,st,av,he=>by
  cases code<;>try(simp[hp]at av;done)
  rename_i oX lg;simp only[hp,cz]at av;intro a w ν aL;refine wp_seq ?_;have J:=qm hm aN x oX _ st av.1 he a w ν aL;refine wp_mono J fun e bm w' cM=>?_;obtain⟨st',bk,bn,df⟩:=cM;cases e with
  |normal=>exact qm hm aN y lg Q st' av.2 bn bm w' bk df
  |_=>exact⟨st',bk,bn,df⟩
 | .cond x t e,code,Q,st,av,he=>by
  cases code<;>try(simp[hp]at av;done)
  rename_i o Zn ce;simp only[hp,cz]at av;intro a w ν aL;simp only[cU]at he;have ab:=eh aL av.1.1;split at he
  ·rename_i b ae;rw[ae]at ab;simp only[a7]at ab;have BX:cO X (rK st x b) a w ν:=by
    unfold rK;split
    ·exact LP aL (by simpa[cm]using ae)
    ·exact aL
   refine wp_cond ab ?_;cases b
   ·exact qm hm aN e ce Q _ av.2 (he.2 rfl) a w ν BX
   ·exact qm hm aN t Zn Q _ av.1.2 (he.1 rfl) a w ν BX
  ·exact he.elim
 | .block id c,code,Q,st,av,he=>by
  cases code<;>try(simp[hp]at av;done)
  rename_i B5 cl;simp only[hp,cz,dL]at av;obtain⟨rfl,av⟩:=av;intro a w ν aL;refine wp_block ?_;refine wp_mono (qm hm aN c cl _ st av he a w ν aL) fun e bm w' cM=>?_;obtain⟨st',bk,bn,df⟩:=cM;cases e with
  |exit j=>
   simp only[Exit.inBlock]at bn⊢;by_cases af:j=id
   ·rw[if_pos af]at bn⊢;exact⟨st',bk,bn,df⟩
   ·rw[if_neg af]at bn⊢;exact⟨st',bk,bn,df⟩
  |_=>exact⟨st',bk,bn,df⟩
 | .loop c,code,Q,st,av,he=>by
  cases code<;>try(simp[hp]at av;done)
  rename_i cl;simp only[hp]at av;intro a w ν aL;simp only[cU]at he;obtain⟨gR,m,v7,hw,hi,jx⟩:=he;refine wp_loop_ghost (fun k a w=> ∃s ν,gR k s∧cO X s a w ν) m ⟨v7,_,hi,aL.weaker hw⟩ ?_;intro k a w adD;obtain⟨s,ν,ag,zk⟩:=adD;have J:=jx k s ag (fun i=>V7 (zk.slot i)) (fun j cs af=>by obtain⟨bl,us,el,_,_,_,_,g5⟩:=zk.good.box j cs af;exact VW g5);refine wp_mono (qm hm aN c cl _ s av J a w ν zk) fun e bm w' cM=>?_;obtain⟨st',bk,bn,df⟩:=cM;cases e with
  |normal=>obtain⟨bL,oA,ak,aB,bf⟩:=bn;exact⟨bL,ak,oA,_,bf,df.weaker aB⟩
  |_=>exact⟨st',bk,bn,df⟩
 | .exit id,code,Q,st,av,he=>by
  cases code<;>try(simp[hp]at av;done)
  rename_i B5;simp only[hp,dL]at av;subst av;intro a w ν aL;exact wp_exit ⟨st,ν,he,aL⟩
 | .ret,code,Q,st,av,he=>by
  cases code<;>try(simp[hp]at av;done)
  intro a w ν aL;exact wp_ret ⟨st,ν,he,aL⟩
 | .pub s c,code,Q,st,av,he=>by
  simp only[hp]at av;simp only[cU]at he;split at he
  ·rename_i st' ag;intro a w ν aL;obtain⟨bk,J⟩:=ai3 aL ag;exact qm hm aN c code Q st' av he a w bk J
  ·exact he.elim
 | .pubB s c,code,Q,st,av,he=>by
  simp only[hp]at av;simp only[cU]at he;split at he
  ·rename_i st' ag;intro a w ν aL;obtain⟨bk,J⟩:=ai2 aL ag;exact qm hm aN c code Q st' av he a w bk J
  ·exact he.elim
 | .fg pc s c,code,Q,st,av,he=>by simp only[hp]at av;simp only[cU]at he;intro a w ν aL;exact qm hm aN c code Q _ av he a w ν (LQ aL (acs (aL.slot s)))
 | .fz e2 s c,code,Q,st,av,he=>by
  simp only[hp]at av;simp only[cU]at he;intro a w ν aL;split at he
  ·rename_i st' dc;obtain⟨bk,J⟩:=acG aL dc;exact qm hm aN c code Q st' av he a w bk J
  ·exact he.elim
 | .no,code,Q,st,av,he=>by simp only[cU]at he
inductive bt where
 |tmp (i:Nat)
 |cell (i:Nat) (agg:Bool) (sz:Nat)
def aY(st:bq):bt→Option (Prop×ah)
 | .tmp i=>some (True,get i st.t)
 | .cell i agg sz=>mv st.b st.e agg sz (get i st.t)
def aX(st:bq):List bt→Option (Prop×List ah)
 |[]=>some (True,[])
 |r::eG=>match aY st r,aX st eG with
  |some (c,p),some (cl,cg)=>some (c∧cl,p::cg)
  |_,_=>none
def qG(bA:List (Nat×dC)):List bt→List ResultVar→Bool
 |[],[]=>true
 | .tmp i::eG,.tmp j::os=>i==j&&qG bA eG os
 | .cell i agg sz::eG,.cell j t::os=>i==j&&(match dU bA t with|some f=>f.size==sz&&f.kind.isAgg==agg|none=>false)&&qG bA eG os
 |_,_=>false
def aV:List ah→ah
 |[p]=>p
 |cg=>.tuple cg
def GH(tmps:Array Value):ResultVar→Sem Value
 | .tmp t=>pure (tmps.getD t undef)
 | .cell x t=>do loadVar t (←asAddr (tmps.getD x undef))
theorem V9(fn:Func)(tmps:Array Value):results fn tmps=(do let ba←fn.results.mapM (GH tmps);pure (if h:ba.size=1 then ba[0]else .tuple ba)):=by unfold results;congr 2
theorem GC{P:cB}{bA:List (Nat×dC)}(aN:fM P bA=true){X:e8}{st:bq}{a:Act}{w:World}{ν:bc}(aL:cO X st a w ν):
  ∀(eG:List bt) (os:List ResultVar) (c:Prop) (cg:List ah),qG bA eG os=true→aX st eG=some (c,cg)→c→
  ∃ba,(os.mapM (GH a.tmps)).run P w= .ok ba w∧cK w ν cg ba
 |[],[],c,cg,_,he,_=>by simp only[aX]at he;cases he;exact⟨[],by simp,by simp[cK]⟩
 |[],_::_,_,_,av,_,_=>by simp[qG]at av
 | .tmp _::_,[],_,_,av,_,_=>by simp[qG]at av
 | .cell _ _ _::_,[],_,_,av,_,_=>by simp[qG]at av
 |r::eG,o::os,c,cg,av,he,ay=>by
  simp only[aX]at he;split at he
  ·rename_i bH p cj UY J U;cases he;cases r with
   |tmp i=>
    cases o with
    |cell _ _=>simp[qG]at av
    |tmp j=>simp only[qG,cz,dL]at av;obtain⟨rfl,av⟩:=av;simp only[aY]at J;cases J;obtain⟨ba,g1,g2⟩:=GC aN aL eG os cj UY av U ay.2;refine⟨a.tmps.getD i undef::ba,?_,by simp only[cK];exact⟨_,_,rfl,aL.slot i,g2⟩⟩;simp only[List.mapM_cons,fC,GH,gk,fJ,g1]
   |cell i agg sz=>
    cases o with
    |tmp _=>simp[qG]at av
    |cell j t=>
     simp only[qG,cz,dL]at av;obtain⟨⟨rfl,ao⟩,av⟩:=av;split at ao
     ·rename_i f aI;simp only[cz,dL]at ao;obtain⟨rfl,rfl⟩:=ao;simp only[aY]at J;obtain⟨ba,g1,g2⟩:=GC aN aL eG os cj UY av U ay.2;obtain⟨v,f1,f2⟩:=FC aN aL.good aI (aL.slot i) J ay.1;have BU:∃r5,a.tmps.getD i undef= .pointer (some r5):=by
       have ag:=aL.slot i;unfold mv at J;split at J
       ·rename_i dF k n vu qX ad;rw[ad]at ag;simp only[a7]at ag;obtain⟨⟨b,o,e⟩,_⟩:=ag;exact⟨_,e⟩
       ·rename_i k off ad;rw[ad]at ag;simp only[a7]at ag;obtain⟨b,_,e⟩:=ag;exact⟨_,e⟩
       ·rename_i q ad;rw[ad]at ag;simp only[a7]at ag;obtain⟨b,off,u,e,_⟩:=ag;exact⟨_,e⟩
       ·cases J
      obtain⟨r5,By⟩:=BU;rw[By]at f1;simp only[Instr.loadAt,Instr.sureAddr,fC,gk,fJ]at f1;refine⟨v::ba,?_,by simp only[cK];exact⟨_,_,rfl,f2,g2⟩⟩;have adH:(asAddr (.pointer (some r5)):Sem Addr).run P w= .ok r5 w:=rfl;simp only[List.mapM_cons,fC,GH,gk,fJ,g1,By,adH,f1]
     ·cases ao
  ·cases he
theorem xY{w:World}{ν:bc}:∀{cg:List ah} {ba:List Value},cK w ν cg ba→ba.length=cg.length
 |[],ba,h=>by simp only[cK]at h;subst h;rfl
 |p::cg,ba,h=>by simp only[cK]at h;obtain⟨u,ca,rfl,_,U⟩:=h;simp[xY U]
def jF:Nat→List ah→List (Nat×ah)
 |_,[]=>[]
 |i,p::cg=>(i,p)::jF (i+1) cg
theorem Ew:∀(cg:List ah) (i j:Nat),get j (jF i cg)=if i≤j∧j<i+cg.length then cg.getD (j-i) .junk else .junk
 |[],i,j=>by simp[jF,get]
 |p::cg,i,j=>by
  simp only[jF,get];by_cases h:i=j
  ·subst h;simp
  ·rw[if_neg h,Ew cg (i+1) j];by_cases U:i≤j∧j<i+(p::cg).length
   ·rw[if_pos U,if_pos (by simp at U⊢;omega)];have:j-i=(j-(i+1))+1:=by omega
    rw[this];simp
   ·rw[if_neg U,if_neg (by simp at U⊢;omega)]
def lZ{α:Type}(ai:cI):List (aH×α)→Prop
 |[]=>True
 |(k,_)::r=>inObs ai k∧lZ ai r
theorem zy{α:Type}{ai:cI}:∀{l:List (aH×α)},lZ ai l→∀k,(look k l).isSome→inObs ai k
 |[],_,k,h=>by simp[look]at h
 |(i,x)::r,ad,k,h=>by
  simp only[lZ]at ad;simp only[look]at h;split at h
  ·rename_i e;subst e;exact ad.1
  ·exact zy ad.2 k h
def cS(eG:List bt)(s:cI)(Q:ah→cI→Prop)(e:Exit)(st:bq):Prop:=
 (e= .ret∨e= .normal)∧match aX st eG with
  |some (c,cg)=>c∧∃ai,lZ ai s.b∧lZ ai s.e∧gA (inObs ai) ai.b st.b∧oE (inObs ai) ai.e st.e∧ij ai∧aC (inObs ai) (dh (aV cg))∧Q (dh (aV cg)) ai
  |none=>eo
theorem bN.of{P:cB}(hm:P.follows .mixedOrders=true){bA:List (Nat×dC)}(aN:fM P bA=true){f:FuncId}{fn:Func}(aI:P.funcs[f]? =some fn){code:Code}(ae:fn.body=some code)(zd:(fn.name== "runtime.NumGoroutine")=false){c:C}(ay:hp fn.ntmps bA c code=true){eG:List bt}(zk:qG bA eG fn.results.toList=true)
  {args:List ah} (au:args.length≤fn.ntmps) {s:cI} (pa:ij s) {Q:ah→cI→Prop} (he:eC args→(∀j cs,look j s.b=some cs→hN cs=true→ev cs)→cU P (cQ s) c (cS eG s Q) ⟨jF 0 args,s.b,s.e,0,cQ s⟩):bN P f args s Q:=by
 intro w ν ba a1 ab aL;refine .inl ⟨⟨fn,aI,by simp[ae],zd⟩,?_⟩;have oj:=xY aL;have ko:ba.size=args.length:=by simpa using oj
 let X:e8:=⟨w,ν,fe ν s,fn.ntmps,cQ s⟩
 have od:∀k,fresh 0 (cQ s) k→ν.bx k=none∧ν.ow k=none∧∀j b,¬ν.tr k j b:=by
  intro k ad;cases k with
  |loc m=>exact⟨(ab _).1 (pa.1 m),(ab _).2.1 (pa.2 m),(ab _).2.2⟩
  |obj m=>
   simp only[fresh,true_and]at ad;refine⟨?_,?_,(ab _).2.2⟩
   ·refine(ab _).1 ?_;cases h:look (.obj m) s.b with
    |none=>rfl
    |some x=>exact absurd (sN (.inl (by simp[h]))) ad
   ·refine(ab _).2.1 ?_;cases h:look (.obj m) s.e with
    |none=>rfl
    |some x=>exact absurd (sN (.inr (by simp[h]))) ad
 have jg:∀m,(ν.bx (.obj m)≠none∨ν.ow (.obj m)≠none)→ .obj m∈cQ s:=by
  intro m hm;refine Classical.byContradiction fun ay=>?_;obtain⟨J,U,_⟩:=od (.obj m) ⟨trivial,ay⟩;rcases hm with hm|hm
  ·exact hm J
  ·exact hm U
 have og:cO X ⟨jF 0 args,s.b,s.e,0,cQ s⟩ {tmps:=ba++Array.replicate (fn.ntmps-ba.size) undef,defers:=[]} w ν:=by
  refine⟨⟨a1.alt,fun k cs ad=>?_,a1.inj,fun g o eO=>?_,a1.oinj,a1.obx,a1.one,a1.otr⟩,⟨rfl,rfl,rfl,eR _,fun _ _ _=>rfl,fun b o h=>⟨h,rfl⟩,fun b o h=>.inl h,fun n b h=>h,fun n b h=>jg n (.inl (by rw[h];simp)),fun m n u h=>⟨n,u,h,.inl ⟨rfl,rfl⟩⟩,fun m n u h=>jg m (.inr (by rw[h];simp)),fun k j _ _ b h=>absurd h ((ab k).2.2 j b),fun k j b h=>absurd h ((ab k).2.2 j b),fun k j b h=>absurd h ((ab k).2.2 j b),fun _ _ _=>rfl⟩,rfl,?_,fun i=>?_,od⟩
  ·obtain⟨bl,us,el,g1,g2,g3⟩:=a1.box k cs ad;exact⟨bl,us,el,g1,.inl g2,g3⟩
  ·obtain⟨v,us,g1,g2,g3,g4⟩:=a1.own g o eO;exact⟨v,us,g1,g2,fun bl fy=>⟨.inl (g3 bl fy).1,(g3 bl fy).2⟩,g4⟩
  ·show(ba++Array.replicate (fn.ntmps-ba.size) undef).size=fn.ntmps;simp;omega
  ·rw[Ew];by_cases hi:i<args.length
   ·rw[if_pos (by omega)];have qt:args[i]? =some args[i]:=cf hi;obtain⟨v,ak,aB⟩:=CY i aL qt;have aK:(ba++Array.replicate (fn.ntmps-ba.size) undef).getD i undef=v:=by
     have A8:ba[i]? =some v:=by simpa using ak
     rw[Array.getD_eq_getD_getElem?,Array.getElem?_append_left (by omega),A8];rfl
    show a7 w ν _ ((ba++Array.replicate (fn.ntmps-ba.size) undef).getD i undef);rw[aK];simpa[List.getD,qt]using aB
   ·rw[if_neg (by omega)];simp[a7]
 have tI:=he (LY aL) (fun j cs af=>by obtain⟨bl,us,el,_,_,_,_,g5⟩:=a1.box j cs af;exact VW g5);have JZ:=qm hm aN (X:=X) c code (cS eG s Q) _ ay tI _ w ν og;refine calls_of_wp aI ae (wp_mono JZ fun e bm w' cM=>?_);obtain⟨st',bk,⟨ra,bn⟩,df⟩:=cM;cases rk:aX st' eG with
 |none=>simp[rk]at bn
 |some x=>
  obtain⟨cl,cg⟩:=x;simp only[rk]at bn;obtain⟨gT,ai,kb,ke,a6,bz,bU,cT,c8⟩:=bn;obtain⟨nh,g1,g2⟩:=GC aN df eG fn.results.toList cl cg zk rk gT;have JK:=xY g2;have dx:bm.defers=[]∧∃v,(results fn bm.tmps).run P w'= .ok v w'∧(fun(e:Ending) w'=> ∃v r ai bk,e= .returned v∧Q r ai∧a7 w' bk r v∧Good (fun bl=>fe ν s bl∨w.heap.size≤bl) w' bk ai.b ai.e∧n3 bk ai∧ij ai∧pA ⟨w,ν,fe ν s,0,cQ s⟩ w' bk) (.returned v) w':=by
   refine⟨df.defers,?_⟩;have h3:(results fn bm.tmps).run P w'= .ok (if h:nh.toArray.size=1 then nh.toArray[0]else .tuple nh.toArray) w':=by rw[V9];simp only[fC,Array.mapM_eq_mapM_toList,Sem.run_map,g1,fJ,gk]
   refine⟨_,h3,_,dh (aV cg),ai,bk.cut (inObs ai),rfl,c8,?_,df.good.cut a6 bz (fun bl h _=>h),?_,bU,?_⟩
   ·have lu:a7 w' bk (aV cg) (if h:nh.toArray.size=1 then nh.toArray[0]else .tuple nh.toArray):=by
     match cg,nh,g2,JK with
     |[p],[v],g2,_=>simp only[cK]at g2;obtain⟨u,ca,ak,aB,_⟩:=g2;cases ak;simpa[aV]using aB
     |[],[],g2,_=>simp[aV,a7,cK]
     |p::dq::cg,v::v2::nh,g2,_=>rw[dif_neg (by simp)];simp only[aV,a7];exact⟨_,rfl,by simpa using g2⟩
     |[_],[],_,h=>simp at h
     |[],_::_,_,h=>simp at h
     |[_],_::_::_,_,h=>simp at h
     |_::_::_,[],_,h=>simp at h
     |_::_::_,[_],_,h=>simp at h
    exact j7 (nS.cut _ w' bk) _ _ cT (kL _ _ lu)
   ·intro k;refine⟨?_,?_,?_⟩;rotate_left 2
    ·rintro j b ⟨ag,ae⟩;obtain⟨t1,t2⟩:=df.fr.trn k j b ae;rcases ag with ag|ag<;>obtain⟨x,h4⟩:=fD.1 ag
     ·obtain⟨bl,ca,el,ak,_⟩:=df.good.box k x (a6 k x h4).1;rw[t1]at ak;cases ak
     ·obtain⟨v',ca,ak,_⟩:=df.good.own k x (bz k x h4).1;rw[t2]at ak;cases ak
    ·intro ad;by_cases ag:inObs ai k
     ·rw[bc.cut_bx ag];rcases ag with ag|ag
      ·rw[ad]at ag;cases ag
      ·obtain⟨x,h4⟩:=fD.1 ag;obtain⟨v',ca,ak,_⟩:=df.good.own k x (bz k x h4).1;rcases df.good.one k with J|J
       ·exact J
       ·rw[J]at ak;cases ak
     ·exact(bc.cut_no ag).1
    ·intro ad;by_cases ag:inObs ai k
     ·rw[bc.cut_ow ag];rcases ag with ag|ag
      ·obtain⟨x,h4⟩:=fD.1 ag;obtain⟨bl,ca,el,ak,_⟩:=df.good.box k x (a6 k x h4).1;rcases df.good.one k with J|J
       ·rw[J]at ak;cases ak
       ·exact J
      ·rw[ad]at ag;cases ag
     ·exact(bc.cut_no ag).2.1
   ·refine⟨df.fr.os,df.fr.tape,df.fr.output,df.fr.size,df.fr.block,df.fr.keep,df.fr.fresh,fun n b h=>?_,fun n b h=>jg n (.inl (by rw[h];simp)),fun m n u h=>?_,fun m n u h=>jg m (.inr (by rw[h];simp)),fun k j bL dD b J U=>df.fr.trd k j bL dD b J.2 U.2,fun k j b ae=>df.fr.trb k j b ae.2,fun k j b ae=>(by rw[bc.cut_bx ae.1,bc.cut_ow ae.1];exact df.fr.trn k j b ae.2),df.fr.sh⟩
    ·have ag:inObs ai (.obj n):=by
      cases au:look (.obj n) s.b with
      |none=>rw[(ab _).1 au]at h;cases h
      |some x=>exact zy kb _ (by simp[au])
     rw[bc.cut_bx ag];exact df.fr.obj n b h
    ·have ag:inObs ai (.obj m):=by
      cases au:look (.obj m) s.e with
      |none=>rw[(ab _).2.1 au]at h;cases h
      |some x=>exact zy ke _ (by simp[au])
     rw[bc.cut_ow ag];exact df.fr.row m n u h
  rcases ra with rfl|rfl<;>exact dx
def bX(bA:List (Nat×dC))(c:C)(eG:List bt)(agR:Nat)(fn:Func):Bool:=
 match fn.body with
 |some code=>hp fn.ntmps bA c code&&qG bA eG fn.results.toList&& !(fn.name== "runtime.NumGoroutine")&&decide (agR≤fn.ntmps)
 |none=>false
theorem bN.mk{P:cB}(hm:P.follows .mixedOrders=true){bA:List (Nat×dC)}(aN:fM P bA=true){f:FuncId}{fn:Func}(aI:P.funcs[f]? =some fn){c:C}{eG:List bt}{n:Nat}(eD:bX bA c eG n fn=true)
  {args:List ah} (au:args.length≤n) {s:cI} (pa:ij s) {Q:ah→cI→Prop} (he:eC args→(∀j cs,look j s.b=some cs→hN cs=true→ev cs)→cU P (cQ s) c (cS eG s Q) ⟨jF 0 args,s.b,s.e,0,cQ s⟩):bN P f args s Q:=by
 unfold bX at eD;split at eD
 ·rename_i code ae;simp only[cz,rW,fE]at eD;obtain⟨⟨⟨J,U⟩,ao⟩,a8⟩:=eD;exact bN.of hm aN aI ae ao J U (jV au a8) pa he
 ·cases eD
theorem ui:ij ⟨[],[]⟩:=⟨fun _=>rfl,fun _=>rfl⟩
def bu(eG:List bt)(r:ah)(e:Exit)(st:bq):Prop:=
 (e= .ret∨e= .normal)∧match aX st eG with
  |some (c,cg)=>c∧dh (aV cg)=r
  |none=>eo
theorem bG.mk{P:cB}(hm:P.follows .mixedOrders=true){bA:List (Nat×dC)}(aN:fM P bA=true){f:FuncId}{fn:Func}(aI:P.funcs[f]? =some fn){c:C}{eG:List bt}{n:Nat}(eD:bX bA c eG n fn=true)
  {args:List ah} (au:args.length≤n) {r:ah} (aL:aC (fun _=>eo) r) (he:eC args→cU P [] c (bu eG r) ⟨jF 0 args,[],[],0,[]⟩):bG P f args r:=by
 refine bN.mk hm aN aI eD au ui fun J _=>?_;have:=he J;have hU:bu eG r=cS eG ⟨[],[]⟩ (fun eJ ai=>eJ=r∧ai=⟨[],[]⟩):=by
  funext e st;unfold bu cS;apply propext;refine and_congr_right fun _=>?_;cases aX st eG with
  |none=>exact Iff.rfl
  |some x=>
   obtain⟨c,cg⟩:=x;refine and_congr_right fun _=>?_;constructor
   ·intro h;refine⟨⟨[],[]⟩,trivial,trivial,fun k cs ad=>by simp[look]at ad,fun k cs ad=>by simp[look]at ad,ui,?_,h,rfl⟩;rw[h];exact vB (fun k ad=>ad.elim) r aL
   ·rintro⟨ai,_,_,_,_,_,_,h,_⟩;exact h
 rw[hU]at this;exact this
theorem M1{α:Type}{β:Type}:∀l:List (aH×α),cv ([]:List (aH×β)) l=l
 |[]=>rfl
 |(k,x)::r=>by simp[cv,look,M1 r]
theorem c4.val{P:cB}{n:Nat}{args:List ah}{st:bq}{d:Option Nat}{K:bq→Prop}{r:ah}(ad:aJ (fun _=>eo) args)(aI:bG P n args r)(h:K {st with t:=eQ d r st.t}):c4 P n args st d K:=by
 refine .inl ⟨⟨[],[]⟩,_,fun k cs ad=>by simp[look]at ad,fun k cs ad=>by simp[look]at ad,ui,jL (fun _ h=>h.elim) _ ad,aI,?_⟩;rintro eJ ai ⟨rfl,rfl⟩;refine⟨⟨fun m h=>by simp[look]at h,fun m h=>by simp[look]at h⟩,?_⟩;have:after st ⟨[],[]⟩ ⟨[],[]⟩ d eJ={st with t:=eQ d eJ st.t}:=by simp[after,M1,cQ]
 rw[this];exact h
@[reducible,simp] def gd(n:Int):ds:= .c (.int .i64 n)
@[reducible,simp] def I(a b:Nat):c5:=⟨none,.s (.v a (.mov (.t b)))⟩
@[reducible,simp] def b5(a:Nat)(i:fO):c5:=⟨none,.s (.v a i)⟩
@[reducible,simp] def c3(i:ek):c5:=⟨none,.s i⟩
@[reducible,simp] def dn(a f:Nat)(l:List ds):c5:=⟨none,.call (some a) (.c (.func f [])) l⟩
@[reducible,simp] def b3(j:Nat)(w:Bool)(a b:Nat):c5:=⟨some (j,w),.s (.v a (.mov (.t b)))⟩
@[reducible,simp] def wq(j:Nat)(w:Bool)(a:Nat)(i:fO):c5:=⟨some (j,w),.s (.v a i)⟩
@[reducible,simp] def ys(j:Nat)(w:Bool)(i:ek):c5:=⟨some (j,w),.s i⟩
@[reducible,simp] def ct(d s a b:Nat):c5:=b5 d (.iaddr s (.t a) (.t b))
@[reducible,simp] def ax(d s a:Nat):c5:=b5 d (.load false s (.t a))
@[reducible,simp] def aW(d s a:Nat):c5:=b5 d (.load true s (.t a))
@[reducible,simp] def aF(d o s a:Nat):c5:=b5 d (.faddr o false s (.t a))
@[reducible,simp] def hD(d o s a:Nat):c5:=b5 d (.faddr o true s (.t a))
@[reducible,simp] def bo(d:Nat)(o:BinOp)(a b:Nat):c5:=b5 d (.bin o false (.t a) (.t b))
@[reducible,simp] def aU(d:Nat)(o:BinOp)(a:Nat)(n:Int):c5:=b5 d (.bin o false (.t a) (gd n))
@[reducible,simp] def cn(d a:Nat):c5:=b5 d (.len (.t a))
@[reducible,simp] def cu(d a:Nat):c5:=b5 d (.notB (.t a))
@[reducible,simp] def cC(d i a:Nat):c5:=b5 d (.ext i (.t a))
@[reducible,simp] def c2(d a b:Nat):c5:=b5 d (.pick (.t a) (.c (.bool true)) (.t b))
@[reducible,simp] def dz(d a b:Nat):c5:=b5 d (.pick (.t a) (.t b) (.c (.bool false)))
@[reducible,simp] def be(d:Nat)(b:Bool):c5:=b5 d (.mov (.c (.bool b)))
@[reducible,simp] def bV(d:Nat)(n:Int):c5:=b5 d (.mov (gd n))
@[reducible,simp] def bK(s a b:Nat):c5:=c3 (.store s (.t a) (.t b))
@[reducible,simp] def aq(j:Nat)(w:Bool)(x:c5):c5:=⟨some (j,w),x.i⟩
@[reducible,simp] def aa(l:List c5)(c:C):C:= .seq (.region l) c
@[reducible,simp] def aT(n:Nat)(a b:C):C:= .cond (.t n) a b
@[reducible,simp] def gB(d a:Nat)(l:List ds):c5:=⟨none,.call (some d) (.t a) l⟩
@[reducible,simp] def cD(d f a:Nat):c5:=dn d f [.t a]
@[reducible,simp] def b7(d f a b:Nat):c5:=dn d f [.t a,.t b]
@[reducible,simp] def dO:List ah:=[.int .i64 0,.int .i64 0,.str [],.slice 4 .nil []]
@[reducible,simp] def jA:List ah:=[.int .i64 0,.int .i64 0,.int .i64 0,.str [],.slice 4 .nil []]
@[reducible,simp] def hy:List ah:=[.int .i64 0,.slice 5 .nil [],.slice 1 .nil [],.slice 2 .nil [],.slice 2 .nil []]
@[reducible,simp] def cx(a b:Nat):c5:=c3 (.box a none (.t b))
@[reducible,simp] def dk(a:Nat)(l:List ah):c5:=c3 (.alloc a none (.agg l))
@[reducible,simp] def ej(a n:Nat):c5:=b5 a (.mov (.c (.slice n .nil [])))
@[reducible,simp] def gF(a b c d e:Nat):c5:=c3 (.app a b c (.t d) (.t e))
@[reducible,simp] def ei(a b c:Nat)(l:List ds):c5:=c3 (.bsl a b c l)
@[reducible,simp] def fv(a b:Nat):c5:=b5 a (.nck (.t b))
@[reducible,simp] def jH(d s a:Nat)(n:Int):c5:=b5 d (.iaddr s (.t a) (gd n))
@[reducible,simp] def iu(d:Nat)(l:List ah)(m:List (Nat×Nat×ds)):c5:=b5 d (.build l m)
@[reducible,simp] def fw(a b c:Nat)(x:C):C:= .block 0 (.loop (aa [bo a .lss b c] (.seq (aT a .skip (.exit 0)) x)))
end Go.Pv
namespace Go.Pv
open Go Go.RowKit
theorem ed{α:Type}{l:List α}{i:Nat}(h:i<l.length):∃b,l[i]? =some b∧∀h,(l[i]'h)=b:=⟨l[i],cf h,fun _=>rfl⟩
def L6(st:bq)(i:ek):Prop:=match l1 st i with|some (c,_)=>c|none=>eo
def L7(st:bq)(i:ek):bq:=match l1 st i with|some (_,s)=>s|none=>st
def Dy(P:cB)(r:List c5)(K:bq→Prop)(st:bq):Prop:=hS P r st K
def yp(P:cB)(ob:List aH)(c:C)(Q:Exit→bq→Prop)(st:bq):Prop:=cU P ob c Q st
def pG(P:cB)(v:ah)(s:Nat)(w:Bool)(i:eb)(r:List c5)(st:bq)(K:bq→Prop):Prop:=
 match v with
 | .bool b=>(b=w→hS P (⟨none,i⟩::r) {st with t:=put s (.bool w) st.t} K)∧(b= !w→hS P r {st with t:=eQ i.dst (.tuple []) (put s (.bool !w) st.t)} K)
 | .tuple []=>hS P r {st with t:=eQ i.dst (.tuple []) st.t} K
 |_=>eo
def tz(P:cB)(ob:List aH)(v:ah)(x:ds)(t e:C)(Q:Exit→bq→Prop)(st:bq):Prop:=
 match v with
 | .bool b=>(b=true→cU P ob t Q (rK st x true))∧(b=false→cU P ob e Q (rK st x false))
 |_=>eo
def Iu(P:cB)(v:ah)(d:Option Nat)(xs:List ah)(r:List c5)(st:bq)(K:bq→Prop):Prop:=
 match v with
 | .func n dp=>c4 P n (cR (xs++dp)) st d (Dy P r K)
 |_=>eo
section
variable {P:cB} {ob:List aH} {st:bq} {K:bq→Prop} {r:List c5} {Q:Exit→bq→Prop} {a b c t e:C}
theorem aak:hS P [] st K=K st:=rfl
theorem aal{i:ek}:hS P (⟨none,.s i⟩::r) st K=(L6 st i∧hS P r (L7 st i) K):=by
 simp only[hS,tx,L6,L7];cases l1 st i with
 |none=>simp
 |some x=>rfl
theorem aah{d:Option Nat}{f:ds}{xs:List ds}:hS P (⟨none,.call d f xs⟩::r) st K=Iu P (cm st.t f) d (xs.map (cm st.t)) r st K:=by simp only[hS,tx,Iu];rfl
theorem aaj{d:Nat}{x:ds}:hS P (⟨none,.next d x⟩::r) st K=sd st d (cm st.t x) (Dy P r K):=by simp only[hS,tx];rfl
def wz(P:cB)(ob:List aH)(c:C)(Q:Exit→bq→Prop):Option bq→Prop
 |some st=>cU P ob c Q st
 |none=>eo
theorem XT:wz P ob c Q (some st)=cU P ob c Q st:=rfl
theorem ZW{s:Nat}:cU P ob (.pub s c) Q st=wz P ob c Q (vR st s):=by simp only[cU];cases vR st s<;>rfl
theorem ZS{pc:Bool}{s:Nat}:cU P ob (.fg pc s c) Q st=cU P ob c Q {st with t:=put s (yN pc (get s st.t)) st.t}:=rfl
theorem ZT{pc:Bool}{s:Nat}{d:C}:cU P ob (.seq (.fg pc s c) d) Q st=cU P ob (.seq c d) Q {st with t:=put s (yN pc (get s st.t)) st.t}:=rfl
theorem ZU{e2:Bool}{s:Nat}:cU P ob (.fz e2 s c) Q st=wz P ob c Q (u4 st e2 s):=by simp only[cU];cases u4 st e2 s<;>rfl
theorem ZV{e2:Bool}{s:Nat}{d:C}:cU P ob (.seq (.fz e2 s c) d) Q st=wz P ob (.seq c d) Q (u4 st e2 s):=by simp only[cU];cases u4 st e2 s<;>rfl
theorem ZX{s:Nat}:cU P ob (.pubB s c) Q st=wz P ob c Q (vQ st s):=by simp only[cU];cases vQ st s<;>rfl
theorem aag{n:Nat}{dp:List ah}{d:Option Nat}{xs:List ah}:Iu P (.func n dp) d xs r st K=c4 P n (cR (xs++dp)) st d (Dy P r K):=rfl
theorem aai{s:Nat}{w:Bool}{i:eb}:hS P (⟨some (s,w),i⟩::r) st K=pG P (get s st.t) s w i r st K:=by simp only[hS,pG];try rfl
theorem aaq{s:Nat}{i:eb}:pG P (.bool true) s true i r st K=hS P (⟨none,i⟩::r) {st with t:=put s (.bool true) st.t} K:=by simp[pG]
theorem aam{s:Nat}{i:eb}:pG P (.bool false) s false i r st K=hS P (⟨none,i⟩::r) {st with t:=put s (.bool false) st.t} K:=by simp[pG]
theorem aap{s:Nat}{i:eb}:pG P (.bool true) s false i r st K=hS P r {st with t:=eQ i.dst (.tuple []) (put s (.bool true) st.t)} K:=by simp[pG]
theorem aan{s:Nat}{i:eb}:pG P (.bool false) s true i r st K=hS P r {st with t:=eQ i.dst (.tuple []) (put s (.bool false) st.t)} K:=by simp[pG]
theorem aao{s:Nat}{w:Bool}{i:eb}:pG P (.tuple []) s w i r st K=hS P r {st with t:=eQ i.dst (.tuple []) st.t} K:=by simp[pG]
theorem bR{x:Bool}{s:Nat}{w:Bool}{i:eb}(J:x=w→hS P (⟨none,i⟩::r) {st with t:=put s (.bool w) st.t} K)(U:x= !w→hS P r {st with t:=eQ i.dst (.tuple []) (put s (.bool !w) st.t)} K):pG P (.bool x) s w i r st K:=⟨J,U⟩
theorem ZH:cU P ob (.seq (.seq a b) c) Q st=cU P ob (.seq a (.seq b c)) Q st:=by simp only[cU];congr 1;funext e st';cases e<;>rfl
theorem Z2:cU P ob (.seq .skip c) Q st=cU P ob c Q st:=rfl
theorem Z0:cU P ob (.seq .ret c) Q st=Q .ret st:=rfl
theorem ZQ{n:Nat}:cU P ob (.seq (.exit n) c) Q st=Q (.exit n) st:=rfl
theorem Z3:cU P ob .skip Q st=Q .normal st:=rfl
theorem Z1:cU P ob .ret Q st=Q .ret st:=rfl
theorem ZR{n:Nat}:cU P ob (.exit n) Q st=Q (.exit n) st:=rfl
theorem ZY{gs:List c5}:cU P ob (.seq (.region gs) c) Q st=hS P gs st (yp P ob c Q):=rfl
theorem ZZ{gs:List c5}:cU P ob (.region gs) Q st=hS P gs st (Q .normal):=rfl
theorem ZK{x:ds}:cU P ob (.seq (.cond x t e) c) Q st=tz P ob (cm st.t x) x (.seq t c) (.seq e c) Q st:=by simp only[cU,tz];try rfl
theorem ZL{x:ds}:cU P ob (.cond x t e) Q st=tz P ob (cm st.t x) x t e Q st:=by simp only[cU,tz];try rfl
theorem Z5{x:ds}:tz P ob (.bool true) x t e Q st=cU P ob t Q (rK st x true):=by simp[tz]
theorem Z4{x:ds}:tz P ob (.bool false) x t e Q st=cU P ob e Q (rK st x false):=by simp[tz]
theorem bM{v:Bool}{x:ds}(J:v=true→cU P ob t Q (rK st x true))(U:v=false→cU P ob e Q (rK st x false)):tz P ob (.bool v) x t e Q st:=⟨J,U⟩
def yk(P:cB)(ob:List aH)(id:Nat)(c:C)(Q:Exit→bq→Prop)(e:Exit)(st:bq):Prop:=
 match e with
 | .normal=>cU P ob c Q st
 | .exit j=>if j=id then cU P ob c Q st else Q (.exit j) st
 |e=>Q e st
theorem ZI{id:Nat}:cU P ob (.seq (.block id a) c) Q st=cU P ob a (yk P ob id c Q) st:=by
 simp only[cU];congr 1;funext e st';cases e with
 |exit j=>rfl
 |_=>rfl
theorem ZJ{id:Nat}:cU P ob (.block id a) Q st=cU P ob a (yk P ob id .skip Q) st:=by
 simp only[cU];congr 1;funext e st';cases e with
 |exit j=>simp only[yk];by_cases af:j=id<;>simp[af,cU]
 |_=>rfl
theorem XH{id:Nat}:yk P ob id c Q .normal st=yp P ob c Q st:=rfl
theorem XG{id j:Nat}:yk P ob id c Q (.exit j) st=if j=id then yp P ob c Q st else Q (.exit j) st:=rfl
theorem XI{id:Nat}:yk P ob id c Q .ret st=Q .ret st:=rfl
def bP(ob:List aH)(gR:Nat→bq→Prop)(k:Nat)(Q:Exit→bq→Prop)(e:Exit)(st:bq):Prop:=
 match e with
 | .normal=> ∃bL oA,bL<k∧iA ob st oA∧gR bL oA
 |e=>Q e st
theorem Dv{gR:Nat→bq→Prop}{k:Nat}:bP ob gR k Q .normal st= ∃bL oA,bL<k∧iA ob st oA∧gR bL oA:=rfl
theorem XO{gR:Nat→bq→Prop}{k n:Nat}:bP ob gR k Q (.exit n) st=Q (.exit n) st:=rfl
theorem XP{gR:Nat→bq→Prop}{k:Nat}:bP ob gR k Q .ret st=Q .ret st:=rfl
theorem o3(gR:Nat→bq→Prop)(m:Nat)(v7:bq)(hw:iA ob st v7)(bB:gR m v7)(h:∀k s,gR k s→(∀i,ec (get i s.t))→(∀j cs,look j s.b=some cs→hN cs=true→ev cs)→cU P ob a (bP ob gR k Q) s):cU P ob (.loop a) Q st:=by
 simp only[cU];refine⟨gR,m,v7,hw,bB,fun k s J U ao=>?_⟩;have:=h k s J U ao;have bn:(bP ob gR k Q)=(fun e ai=>match e with| .normal=> ∃bL oA,bL<k∧iA ob ai oA∧gR bL oA|e=>Q e ai):=by funext e ai;cases e<;>rfl
 rw[bn]at this;exact this
end
/-Regions cL draw k7 order. -/
def L4(n0:Nat)(st:bq)(i:ek):Prop:=match eE (oZ n0 i) st.n (oZ n0 i::st.o) st i with|some (c,_)=>c|none=>eo
def L5(n0:Nat)(st:bq)(i:ek):bq:=match eE (oZ n0 i) st.n (oZ n0 i::st.o) st i with|some (_,s)=>s|none=>st
def Hj(P:cB)(q:Bool)(nw:List Nat)(n0:Nat)(r:List c5)(K:bq→Prop)(st:bq):Prop:=hH P q nw n0 r st K
def pF(P:cB)(q:Bool)(nw:List Nat)(n0:Nat)(v:ah)(s:Nat)(w:Bool)(i:eb)(r:List c5)(st:bq)(K:bq→Prop):Prop:=
 match v with
 | .bool b=>(b=w→hH P q nw n0 (⟨none,i⟩::r) {st with t:=put s (.bool w) st.t} K)∧(b= !w→hH P q nw n0 r {st with t:=eQ i.dst (.tuple []) (put s (.bool !w) st.t)} K)
 | .tuple []=>hH P q nw n0 r {st with t:=eQ i.dst (.tuple []) st.t} K
 |_=>eo
def It(P:cB)(q:Bool)(nw:List Nat)(n0:Nat)(v:ah)(d:Option Nat)(xs:List ah)(r:List c5)(st:bq)(K:bq→Prop):Prop:=
 match v with
 | .func n dp=>hX P q nw n (cR (xs++dp)) st d (Hj P q nw n0 r K)
 |_=>eo
section
variable {P:cB} {ob:List aH} {st:bq} {K:bq→Prop} {r:List c5} {Q:Exit→bq→Prop} {c:C} {q:Bool} {nw:List Nat} {n0 N:Nat}
theorem Z9:hH P q nw n0 [] st K=K st:=rfl
theorem aaa{i:ek}:hH P q nw n0 (⟨none,.s i⟩::r) st K=(lO q nw n0 st i∧L4 n0 st i∧hH P q nw n0 r (L5 n0 st i) K):=by
 simp only[hH,kf,L4,L5];cases eE (oZ n0 i) st.n (oZ n0 i::st.o) st i with
 |none=>simp
 |some x=>rfl
theorem Z7{d:Option Nat}{f:ds}{xs:List ds}:hH P q nw n0 (⟨none,.call d f xs⟩::r) st K=It P q nw n0 (cm st.t f) d (xs.map (cm st.t)) r st K:=by simp only[hH,kf,It];rfl
theorem Z6{n:Nat}{dp:List ah}{d:Option Nat}{xs:List ah}:It P q nw n0 (.func n dp) d xs r st K=hX P q nw n (cR (xs++dp)) st d (Hj P q nw n0 r K):=rfl
theorem Z8{s:Nat}{w:Bool}{i:eb}:hH P q nw n0 (⟨some (s,w),i⟩::r) st K=pF P q nw n0 (get s st.t) s w i r st K:=by simp only[hH,pF];try rfl
theorem aaf{s:Nat}{i:eb}:pF P q nw n0 (.bool true) s true i r st K=hH P q nw n0 (⟨none,i⟩::r) {st with t:=put s (.bool true) st.t} K:=by simp[pF]
theorem aab{s:Nat}{i:eb}:pF P q nw n0 (.bool false) s false i r st K=hH P q nw n0 (⟨none,i⟩::r) {st with t:=put s (.bool false) st.t} K:=by simp[pF]
theorem aae{s:Nat}{i:eb}:pF P q nw n0 (.bool true) s false i r st K=hH P q nw n0 r {st with t:=eQ i.dst (.tuple []) (put s (.bool true) st.t)} K:=by simp[pF]
theorem aac{s:Nat}{i:eb}:pF P q nw n0 (.bool false) s true i r st K=hH P q nw n0 r {st with t:=eQ i.dst (.tuple []) (put s (.bool false) st.t)} K:=by simp[pF]
theorem aad{s:Nat}{w:Bool}{i:eb}:pF P q nw n0 (.tuple []) s w i r st K=hH P q nw n0 r {st with t:=eQ i.dst (.tuple []) st.t} K:=by simp[pF]
theorem bQ{x:Bool}{s:Nat}{w:Bool}{i:eb}(J:x=w→hH P q nw n0 (⟨none,i⟩::r) {st with t:=put s (.bool w) st.t} K)(U:x= !w→hH P q nw n0 r {st with t:=eQ i.dst (.tuple []) (put s (.bool !w) st.t)} K):pF P q nw n0 (.bool x) s w i r st K:=⟨J,U⟩
theorem ZM{gs:List c5}:cU P ob (.seq (.drawn q N gs) c) Q st=hH P q [] st.n gs st (td (st.n+N) st.o (yp P ob c Q)):=rfl
theorem ZN{gs:List c5}:cU P ob (.drawn q N gs) Q st=hH P q [] st.n gs st (td (st.n+N) st.o (Q .normal)):=rfl
theorem ZO{gs:List c5}:cU P ob (.seq (.drawnW nw N gs) c) Q st=((∀j∈nw,.obj j∉st.o)∧hH P false nw st.n gs st (td (st.n+N) (nw.map aH.obj++st.o) (yp P ob c Q))):=rfl
theorem ZP{gs:List c5}:cU P ob (.drawnW nw N gs) Q st=((∀j∈nw,.obj j∉st.o)∧hH P false nw st.n gs st (td (st.n+N) (nw.map aH.obj++st.o) (Q .normal))):=rfl
theorem hX.val{n:Nat}{args:List ah}{d:Option Nat}{r:ah}(ad:aJ (fun _=>eo) args)(aI:bG P n args r)(h:K {st with t:=eQ d r st.t}):hX P q nw n args st d K:=by
 refine .inr ⟨⟨[],[]⟩,⟨[],[]⟩,r,none,fun k cs ad=>by simp[look]at ad,fun k cs ad=>by simp[look]at ad,ui,ui,⟨fun k h=>.inl h,fun k h=>.inl h,fun k h=>h,fun k h=>h,fun k h=>by cases h⟩,jL (fun _ h=>h.elim) _ ad,aI,fun _=>⟨rfl,rfl⟩,?_⟩;have:({after st ⟨[],[]⟩ ⟨[],[]⟩ d r with o:=st.o}:bq)={st with t:=eQ d r st.t}:=by simp[after,M1]
 rw[this];exact h
theorem aE{n:Nat}{args:List ah}{d:Option Nat}{r:ah}(aI:bG P n args r)(h:K {st with t:=eQ d r st.t})(ad:aJ (fun _=>eo) args:=by simp):hX P q nw n args st d K:=hX.val ad aI h
end
section
variable {k:IntKind} {n:Int} {b:Bool} {s:List dB} {sz:Nat} {tag:AR} {xs:List ah} {key:aH} {off f:Nat} {x:ah}
@[simp] theorem arF:dX (.int k n)=true:=rfl
@[simp] theorem arq:dX (.bool b)=true:=rfl
@[simp] theorem arP:dX (.str s)=true:=rfl
@[simp] theorem arO:dX (.slice sz tag xs)=true:=rfl
@[simp] theorem arl:dX (.agg xs)=true:=rfl
@[simp] theorem arM:dX (.ptr key off)=true:=rfl
@[simp] theorem arB:dX (.eptr x)=true:=rfl
@[simp] theorem arE{t:Nat}:dX (.iface t x)=true:=rfl
@[simp] theorem anF{t:Nat}:cells (.iface t x)=[.iface t x]:=rfl
@[simp] theorem art{a:Option Addr}{n c:Nat}:dX (.cst (.slice a n c))=true:=rfl
@[simp] theorem aru{s}:dX (.cst (.string s))=true:=rfl
@[simp] theorem arL:dX .nilp=true:=rfl
@[simp] theorem arC:dX (.func f xs)=true:=rfl
@[simp] theorem arD:dX (.gmap key)=true:=rfl
@[simp] theorem arN{n:Nat}:dX (.row sz key n)=true:=rfl
@[simp] theorem anP{n:Nat}:cells (.row sz key n)=[.row sz key n]:=rfl
@[simp] theorem anG:cells (.int k n)=[.int k n]:=rfl
@[simp] theorem ant:cells (.bool b)=[.bool b]:=rfl
@[simp] theorem anR:cells (.str s)=[.str s]:=rfl
@[simp] theorem anQ:cells (.slice sz tag xs)=[.slice sz tag xs]:=rfl
@[simp] theorem anp:cells (.agg xs)=xs:=rfl
@[simp] theorem anO:cells (.ptr key off)=[.ptr key off]:=rfl
@[simp] theorem anC:cells (.eptr x)=[.eptr x]:=rfl
@[simp] theorem anN:cells .nilp=[.nilp]:=rfl
@[simp] theorem anD:cells (.func f xs)=[.func f xs]:=rfl
@[simp] theorem anE:cells (.gmap key)=[.gmap key]:=rfl
end
section
variable {b:List (aH×List ah)} {e:List (aH×fF)} {agg:Bool} {sz off:Nat} {k:aH} {p:ah} {cs xs ba:List ah} {fj:IntKind} {n i:Int} {m j:Nat} {tag:AR} {s:List dB} {NP:Bool} {lo hi:Option ah}
@[simp] theorem apP{dF:Nat}{f:Nat}:mv b e agg sz (.rptr dF k m j f)=x1 agg sz dF m j f (look k e):=rfl
@[simp] theorem apO:mv b e agg sz (.ptr k off)=(match look k b with
  |some cs=>if agg then some (hN cs=true∧off+sz≤cs.length,.agg ((cs.drop off).take sz))else(cs[off]?).map fun p=>(hN cs=true,p)
  |none=>none):=rfl
@[simp] theorem apN:mv b e agg sz (.eptr p)=if agg then some (isAgg sz p,p)else some (dX p=true∧cells p=[p],p):=rfl
@[simp] theorem aoj:Bn agg sz (.eptr p)=if agg then some (isAgg sz p,p)else some (dX p=true∧cells p=[p],p):=rfl
@[simp] theorem an9{o:Nat}:pH off agg sz (.ptr k o)=some (True,.ptr k (o+off)):=rfl
@[simp] theorem aoa{dF f:Nat}:pH off agg sz (.rptr dF k m j f)=some (True,.rptr dF k m j (f+off)):=rfl
@[simp] theorem an2:pH off agg sz (.eptr (.agg cs))=if agg then some (off+sz≤cs.length,.eptr (.agg ((cs.drop off).take sz)))else(cs[off]?).map fun p=>(dX p=true∧cells p=[p],.eptr p):=rfl
@[simp] theorem aoc:qZ off agg sz (.agg cs)=if agg then some (off+sz≤cs.length,.agg ((cs.drop off).take sz))else(cs[off]?).map fun p=>(True,p):=rfl
@[simp] theorem aoN{dF:Nat}:zt sz (.slice dF tag xs) (.int fj i)=if dF=sz then some (0≤i∧i<xs.length,.eptr (xs.getD i.toNat .junk))else none:=rfl
@[simp] theorem aoM{dF:Nat}:zt sz (.row dF k m) (.int fj i)=if dF=sz then some (0≤i∧i<m,.rptr dF k m i.toNat 0)else none:=rfl
@[simp] theorem apM{dF:Nat}:zD (.slice dF tag xs)=some (True,.int .i64 xs.length):=rfl
@[simp] theorem apL{dF:Nat}:zD (.row dF k m)=some (True,.int .i64 m):=rfl
@[simp] theorem apK{a:Option Addr}{n c:Nat}:zD (.cst (.slice a n c))=some (True,.int .i64 n):=rfl
@[simp] theorem arj{s}:C6 (.cst (.string s))=some (True,.int .i64 s.size):=rfl
@[simp] theorem ark:C6 (.str s)=some (True,.int .i64 s.length):=rfl
@[simp] theorem an1:yI j (.tuple ba)=(ba[j]?).map fun p=>(True,p):=rfl
@[simp] theorem aqf:zN (.ptr k off)=some (True,.ptr k off):=rfl
@[simp] theorem aqd:zN (.eptr p)=some (True,.eptr p):=rfl
@[simp] theorem aqe:zN (.func j cs)=some (True,.func j cs):=rfl
@[simp] theorem aqg:FR (.bool NP)=some (True,.bool (!NP)):=rfl
@[simp] theorem ari:GL (.str s) (.int fj i)=some (0≤i∧i<s.length,.int .u8 (s.getD i.toNat 0).toNat):=rfl
@[simp] theorem arR:GQ (.str s) lo hi=(match qE 0 lo,qE s.length hi with
  |some l,some h=>some (0≤l∧l≤h∧h≤s.length,.str ((s.take h.toNat).drop l.toNat))
  |_,_=>none):=rfl
@[simp] theorem apQ{dF:Nat}:FD sz (.slice dF tag xs) lo hi=(if dF=sz then match qE 0 lo,qE xs.length hi with
  |some l,some h=>some (0≤l∧l≤h∧h≤xs.length,.slice sz .no ((xs.take h.toNat).drop l.toNat))
  |_,_=>none else none):=rfl
theorem T9{f:aH→Option (List ah)}{b9:jq}{z q:ah}{ok:Bool}:nE f b9 z ok (.gmap k) q=(match f k with
  |some (.hdm _ _::kvs)=>if tW b9 q=false then none else match vH b9 q kvs with
   |some (some v)=>some (True,if ok then .tuple [v,.bool true]else v)
   |some none=>some (True,if ok then .tuple [z,.bool false]else z)
   |none=>none
  |_=>none):=rfl
theorem agI{f:aH→Option (List ah)}:ug f (.gmap k)=(match f k with
  |some (.hdm _ borns::_)=>some (True,.int .i64 borns.length)
  |_=>none):=rfl
theorem T6{f:aH→Option (List ah)}:pe f (.ptr k 0)=(match f k with
  |some [.hdi _ seen last,.gmap mk]=>match f mk with
   |some (.hdm clock borns::kvs)=>match seen.getLast? with
    |some n=>(mw n borns kvs).map fun p=>(clock=last,p)
    |none=>none
   |_=>none
  |_=>none):=rfl
@[simp] theorem ard{dF f n' el jb:Nat}:x1 agg sz dF m j f (some ⟨n',el,jb,some xs⟩)=(if n'=m∧jb=dF then
   (match xs[j]? with
    |some p=>if agg then some (dX p=true∧f+sz≤(cells p).length,.agg (((cells p).drop f).take sz))else((cells p)[f]?).map fun q=>(dX p=true,q)
    |none=>none)else none):=rfl
end
attribute [simp] ZH ZY ZI ZK Z2 Z0 ZQ Z3 Z1 ZR ZZ ZJ ZL yp XH XG XI XO XP aak aal aah aag aai
 aaq aam aap aan aao Z5 Z4 L6 L7 l1 ha jF cm get put jC pR nb nc cw qE AX Fe GR nH tt F4 FO D9 FN
 look eQ ek.dst eb.dst rK Dy r6 cR dh aC aJ
 ZM ZN ZO ZP Z9 aaa Z7 Z6 Z8 aaf aab aae aac aad L4 L5 eE oZ lO wU fO.loadO td Hj xu hN r7 aaj ZW ZX ZS ZT ZU ZV u4 IZ sa yN XT vR CO vQ qK my ib FH
theorem aD{P:cB}{n:Nat}{args:List ah}{st:bq}{d:Option Nat}{K:bq→Prop}{r:ah}(aI:bG P n args r)(h:K {st with t:=eQ d r st.t})(ad:aJ (fun _=>eo) args:=by simp):c4 P n args st d K:=c4.val ad aI h
theorem aj{a b:Prop}(ae:b)(bE:a:=by first|omega|(unfold sA;omega)|(unfold lim;omega)):a∧b:=⟨bE,ae⟩
theorem ch{p:Prop}(h:eo:=by first|contradiction|omega):p:=h.elim
theorem b0{p:Prop}(h:p:=by(try simp[*]);(repeat' first|with_reducible refine aj ?_|with_reducible refine aD (by assumption) ?_|with_reducible refine aE (by assumption) ?_|simp[*]);(all_goals first|done|(simp[bu,aX,aY,aV, *];done))):p:=h
end Go.Pv
namespace Go.Pv
open Go Go.RowKit
structure ea (s:cI):Prop where
 obj:ij s
 kb:∀k cs,look k s.b=some cs→aJ (inObs s) cs
 ke:∀k o,look k s.e=some o→dP (inObs s) o
structure Same (s ai:cI):Prop where
 b:∀k,(look k s.b).isSome=(look k ai.b).isSome
 e:∀k,(look k s.e).isSome=(look k ai.e).isSome
theorem Same.refl(s:cI):Same s s:=⟨fun _=>rfl,fun _=>rfl⟩
theorem Same.inObs{s ai:cI}(h:Same s ai)(k:aH):inObs s k↔inObs ai k:=by unfold Pv.inObs;rw[h.b,h.e]
theorem ud{α:Type}{k:aH}{x:α}:∀{l:List (aH×α)},(k,x)∈l→(look k l).isSome
 |(i,y)::r,h=>by
  simp only[look];split
  ·rfl
  ·rename_i cF;rcases fU.1 h with h|h
   ·cases h;exact absurd rfl cF
   ·exact ud h
theorem SO{s:cI}{k:aH}(h:k∈cQ s):inObs s k:=by
 unfold cQ at h;rcases jU.1 h with h|h
 ·obtain⟨⟨bL,x⟩,J,rfl⟩:=h8.1 h;exact .inl (ud J)
 ·obtain⟨⟨bL,x⟩,J,rfl⟩:=h8.1 h;exact .inr (ud J)
theorem jO{s:cI}(h:ij s)(m:Nat):aH.loc m∉cQ s:=fun hm=>by
 rcases SO hm with J|J
 ·rw[h.1 m]at J;cases J
 ·rw[h.2 m]at J;cases J
theorem ir{α β:Type}(s:List (aH×β)):∀(a b:List (aH×α)),cv s (a++b)=cv s a++cv s b
 |[],b=>rfl
 |(k,x)::r,b=>by
  simp only[bT,cv];cases look k s with
  |none=>simp[ir s r b]
  |some _=>exact ir s r b
theorem M2{α β:Type}(s:List (aH×β)):∀(l:List (aH×α)),(∀k x,(k,x)∈l→(look k s).isSome)→cv s l=[]
 |[],_=>rfl
 |(k,x)::r,h=>by
  have J:=h k x (by simp);simp only[cv];cases au:look k s with
  |none=>rw[au]at J;cases J
  |some _=>exact M2 s r fun k x ab=>h k x (by simp[ab])
theorem gO{α:Type}(s:List (aH×α)):cv s s=[]:=M2 s s fun k x h=>ud h
theorem jT{α:Type}{k:aH}{x:α}:∀{l:List (aH×α)},look k l=none→cw k x l=l++[(k,x)]
 |[],_=>rfl
 |(i,y)::r,h=>by
  simp only[look]at h;split at h
  ·cases h
  ·rename_i cF;simp[cw,cF,jT h]
theorem cH{α:Type}(k:aH):∀(a b:List (aH×α)),look k (a++b)=match look k a with|some x=>some x|none=>look k b
 |[],b=>rfl
 |(i,y)::r,b=>by
  simp only[bT,look];split
  ·rfl
  ·exact cH k r b
theorem c4.ob{P:cB}{n:Nat}{args:List ah}{st:bq}{d:Option Nat}{K:bq→Prop}{s:cI}{Q:ah→cI→Prop}(aI:bN P n args s Q)(ag:ea s)(ae:∀k cs,look k s.b=some cs→look k st.b=some cs)(he:∀k o,look k s.e=some o→look k st.e=some o)
  (ad:aJ (inObs s) args) (h:∀r ai,Q r ai→Same s ai∧K ⟨eQ d r st.t,cv s.b st.b++ai.b,cv s.e st.e++ai.e,st.n,st.o++cQ ai⟩):c4 P n args st d K:=by
 refine .inl ⟨s,Q,fun k cs ay=>⟨ae k cs ay,.inl (by simp[ay]),ag.kb k cs ay⟩,fun k o av=>⟨he k o av,.inr (by simp[av]),ag.ke k o av⟩,ag.obj,ad,aI,fun r ai bn=>?_⟩;obtain⟨J,U⟩:=h r ai bn;exact⟨⟨fun m hm=>.inl (by rw[J.b];exact hm),fun m hm=>.inl (by rw[J.e];exact hm)⟩,U⟩
theorem cS.ob{eG:List bt}{s ai:cI}{Q:ah→cI→Prop}{e:Exit}{st:bq}{c:Prop}{cg:List ah}(ra:e= .ret∨e= .normal)(rk:aX st eG=some (c,cg))(ay:c)(ag:ea ai)(fb:Same s ai)(ae:∀k cs,look k ai.b=some cs→look k st.b=some cs)(dw:∀k o,look k ai.e=some o→look k st.e=some o)
  (ad:aC (inObs ai) (dh (aV cg))) (bn:Q (dh (aV cg)) ai):cS eG s Q e st:=by
 refine⟨ra,?_⟩;rw[rk];have R4:∀{α:Type} (l:List (aH×α)),(∀k x,(k,x)∈l→inObs ai k)→lZ ai l:=by
  intro α l;induction l with
  |nil=>intro _;trivial
  |cons x r bS=>obtain⟨k,x⟩:=x;intro h;exact⟨h k x (by simp),bS fun k x ab=>h k x (by simp[ab])⟩
 exact⟨ay,ai,R4 _ fun k x ab=>.inl (by rw[←fb.b];exact ud ab),R4 _ fun k x ab=>.inr (by rw[←fb.e];exact ud ab),fun k cs dr=>⟨ae k cs dr,.inl (by simp[dr]),ag.kb k cs dr⟩,fun k o av=>⟨dw k o av,.inr (by simp[av]),ag.ke k o av⟩,ag.obj,ad,bn⟩
theorem bN.mono{P:cB}{f:FuncId}{args:List ah}{s:cI}{Q qb:ah→cI→Prop}(h:bN P f args s Q)(bn:∀r ai,Q r ai→qb r ai):bN P f args s qb:=by
 intro w ν ba J U ao;have hm:∀(e:Ending) (w':World),(∃v r ai bk,e= .returned v∧Q r ai∧a7 w' bk r v∧Good (fun bl=>fe ν s bl∨w.heap.size≤bl) w' bk ai.b ai.e∧n3 bk ai∧ij ai∧pA ⟨w,ν,fe ν s,0,cQ s⟩ w' bk)→(∃v r ai bk,e= .returned v∧qb r ai∧a7 w' bk r v∧Good (fun bl=>fe ν s bl∨w.heap.size≤bl) w' bk ai.b ai.e∧n3 bk ai∧ij ai∧pA ⟨w,ν,fe ν s,0,cQ s⟩ w' bk):=by rintro e w' ⟨v,r,ai,bk,bD,a2,a3⟩;exact⟨v,r,ai,bk,bD,bn _ _ a2,a3⟩
 rcases h w ν ba J U ao with⟨qq,ay⟩|⟨v,w',ay,aL⟩
 ·exact .inl ⟨qq,ay.mono hm⟩
 ·exact .inr ⟨v,w',ay,hm _ _ aL⟩
theorem Cy{s:cI}{k:aH}(h:inObs s k):¬fresh 0 (cQ s) k:=fun aI=>aI.2 (sN h)
theorem iA.ob{s:cI}(ag:ea s){st:bq}{dJ:List (Nat×ah)}(aN:∀x∈dJ,get x.1 st.t=x.2∧aC (inObs s) x.2)(ae:∀k cs,look k s.b=some cs→look k st.b=some cs)(he:∀k o,look k s.e=some o→look k st.e=some o):
  iA (cQ s) st ⟨dJ,s.b,s.e,0,cQ s⟩:=
 ⟨fun x ab=>⟨(aN x ab).1,vB (fun k ad=>Cy ad) _ (aN x ab).2⟩,fun k cs ay=>⟨ae k cs ay,Cy (.inl (by simp[ay])),jL (fun k ad=>Cy ad) _ (ag.kb k cs ay)⟩,
  fun k o av=>⟨he k o av,Cy (.inr (by simp[av])),fun xs ab=>jL (fun k ad=>Cy ad) _ (ag.ke k o av xs ab)⟩,fun m hm=>hm⟩
def cZ(st:bq)(eG:List bt)(R:ah→Prop):Prop:=match aX st eG with
 |some (c,cg)=>c∧R (dh (aV cg))
 |none=>eo
theorem cS.at{eG:List bt}{s:cI}{Q:ah→cI→Prop}{e:Exit}{st:bq}(ai:cI)(ra:e= .ret∨e= .normal)(ag:ea ai)(fb:Same s ai)(ae:∀k cs,look k ai.b=some cs→look k st.b=some cs)(dw:∀k o,look k ai.e=some o→look k st.e=some o)
  (h:cZ st eG fun r=>aC (inObs ai) r∧Q r ai):cS eG s Q e st:=by
 unfold cZ at h;split at h
 ·rename_i c cg aL;exact cS.ob ra aL h.1 ag fb ae dw h.2.1 h.2.2
 ·exact h.elim
theorem hX.ob{P:cB}{nw:List Nat}{n:Nat}{args:List ah}{st:bq}{d:Option Nat}{K:bq→Prop}{s ai:cI}{r:ah}(aI:bN P n args s fun eJ dJ=>eJ=r∧dJ=ai)(ag:ea s)(gi:ea ai)(fb:Same s ai)(ae:∀k cs,look k s.b=some cs→look k st.b=some cs)(he:∀k o,look k s.e=some o→look k st.e=some o)
  (ad:aJ (inObs s) args) (h:K ⟨eQ d r st.t,cv s.b st.b++ai.b,cv s.e st.e++ai.e,st.n,st.o⟩):hX P false nw n args st d K:=
 .inr ⟨s,ai,r,none,fun k cs ay=>⟨ae k cs ay,.inl (by simp[ay]),ag.kb k cs ay⟩,fun k o av=>⟨he k o av,.inr (by simp[av]),ag.ke k o av⟩,ag.obj,gi.obj,⟨fun k ad=>.inl (by rw[fb.b];exact ad),fun k ad=>.inl (by rw[fb.e];exact ad),fun k ad=>by rw[←fb.b];exact ad,fun k ad=>by rw[←fb.e];exact ad,fun k ad=>by cases ad⟩,ad,aI,(fun e=>by cases e),h⟩
theorem ea.of{s:cI}(av:ij s)(ae:∀x∈s.b,aJ (inObs s) x.2)(he:∀x∈s.e,∀xs,x.2.xs=some xs→aJ (inObs s) xs):ea s:=⟨av,fun k cs ad=>ae (k,cs) (sI ad),fun k o ad xs ab=>he (k,o) (sI ad) xs ab⟩
@[simp] theorem aqi(b:List (aH×List ah))(e:List (aH×fF)):cQ ⟨b,e⟩=b.map (·.1)++e.map (·.1):=rfl
theorem AE{α:Type}{k:aH}{p:α}:∀{a r:List (aH×α)},look k a=none→cw k p (a++r)=a++cw k p r
 |[],_,_=>rfl
 |(i,y)::a,r,h=>by
  simp only[look]at h;split at h
  ·cases h
  ·rename_i cF;simp[cw,cF,AE h]
theorem af2{α:Type}{s b:List (aH×α)}(h:∀p∈s,look p.1 b=some p.2):∀k x,look k s=some x→look k b=some x:=fun k x ab=>h (k,x) (sI ab)
theorem dY{S:aH→Prop}{bO b:List (aH×List ah)}(h:∀p∈bO,look p.1 b=some p.2∧S p.1∧aJ S p.2):gA S bO b:=fun k x ab=>h (k,x) (sI ab)
theorem dZ{S:aH→Prop}{bO b:List (aH×fF)}(h:∀p∈bO,look p.1 b=some p.2∧S p.1∧dP S p.2):oE S bO b:=fun k x ab=>h (k,x) (sI ab)
theorem aR{α:Type}{s b:List (aH×α)}(h:∀k x,look k s=some x→look k b=some x:=by first|(refine af2 ?_;simp;done)|(intro k x ab;first|exact ab|(simp[ab,gO];done)|(simp[cH,gO,ab];done)|(cases k<;>simp_all[cH];done))):∀k x,look k s=some x→look k b=some x:=h
theorem b1{ob:List aH}{st st':bq}(J:∀x∈st'.t,get x.1 st.t=x.2∧aC (fun k=> ¬fresh st'.n st'.o k) x.2:=by simp[fresh,aJ,aC,cd,inObs,Pv.look])(U:∀p∈st'.b,look p.1 st.b=some p.2∧(¬fresh st'.n st'.o p.1)∧aJ (fun k=> ¬fresh st'.n st'.o k) p.2:=by simp[fresh,aJ,aC,cd,inObs,Pv.look])(ao:∀p∈st'.e,look p.1 st.e=some p.2∧(¬fresh st'.n st'.o p.1)∧dP (fun k=> ¬fresh st'.n st'.o k) p.2:=by simp[fresh,aJ,aC,dP,inObs,Pv.look])(a8:∀m∈ob,m∈st'.o:=by simp):iA ob st st':=⟨J,dY U,dZ ao,a8⟩
theorem bP.next{ob:List aH}{gR:Nat→bq→Prop}{k:Nat}{Q:Exit→bq→Prop}{st:bq}(bL:Nat){ai:bq}(ad:bL<k)(hi:gR bL ai)(hw:iA ob st ai):bP ob gR k Q .normal st:=⟨bL,ai,ad,hw,hi⟩
def kg:List (Int×ah)→List ah
 |[]=>[]
 |(k,v)::r=>.int .i64 k::v::kg r
def jB(l:List (Int×ah)):List ah:= .hdm l.length (List.range l.length)::kg l
def wF(k:Int):List (Int×ah)→Option ah
 |[]=>none
 |(i,v)::r=>if k=i then some v else wF k r
def oU(k:Int)(v:ah):List (Int×ah)→Option (List (Int×ah))
 |[]=>none
 |(i,w)::r=>if k=i then some ((k,v)::r)else match oU k v r with|some eJ=>some ((i,w)::eJ)|none=>none
def DH(k:Int)(v:ah)(l:List (Int×ah)):List (Int×ah):=match oU k v l with|some aZ=>aZ|none=>l++[(k,v)]
@[simp] theorem ap0:[ah.hdm 0 []]=jB []:=rfl
theorem Q2:∀a b,kg (a++b)=kg a++kg b
 |[],_=>rfl
 |(k,v)::r,b=>by simp[kg,Q2 r b]
theorem T7(k:Int):∀l,vH .i (.int .i64 k) (kg l)=some (wF k l)
 |[]=>rfl
 |(i,v)::r=>by
  simp only[kg,vH,sE,wF];by_cases h:k=i
  ·simp[h]
  ·have:(k==i)=false:=by simp[h]
   simp[h,T7 k r,this]
theorem NH{k:Int}{v:ah}:∀{l aZ},oU k v l=some aZ→aZ.length=l.length
 |[],_,h=>by simp[oU]at h
 |(i,w)::r,aZ,h=>by
  simp only[oU]at h;split at h
  ·cases h;rfl
  ·split at h
   ·rename_i eJ aL;cases h;simp[NH aL]
   ·cases h
theorem Ul(k:Int)(v:ah):∀l,uh .i (.int .i64 k) v (kg l)=some ((oU k v l).map kg)
 |[]=>rfl
 |(i,w)::r=>by
  simp only[kg,uh,sE,oU];by_cases h:k=i
  ·subst h;simp[kg]
  ·simp only[and_self,if_true,h,if_false,dL,Ul k v r];have:(k==i)=false:=by simp[h]
   rw[this];cases oU k v r<;>simp[kg]
@[simp] theorem Uk(k:Int)(v:ah)(l:List (Int×ah)):ov .i (.int .i64 k) v (jB l)=some (jB (DH k v l)):=by
 simp only[jB,ov,Tk,Bool.true_eq_false,reduceCtorEq,if_false,Ul,DH];cases h:oU k v l with
 |some aZ=>simp[NH h]
 |none=>simp[Q2,kg,List.range_succ]
@[simp] theorem agt(f:aH→Option (List ah))(m:aH)(l:List (Int×ah))(z:ah)(ok:Bool)(k:Int)(hm:f m=some (jB l)):nE f .i z ok (.gmap m) (.int .i64 k)=(match wF k l with
  |some v=>some (True,if ok then .tuple [v,.bool true]else v)
  |none=>some (True,if ok then .tuple [z,.bool false]else z)):=by
 simp only[T9,hm,jB,Tk,Bool.true_eq_false,reduceCtorEq,if_false,T7];cases wF k l<;>rfl
@[simp] theorem agJ(f:aH→Option (List ah))(m:aH)(l:List (Int×ah))(hm:f m=some (jB l)):ug f (.gmap m)=some (True,.int .i64 l.length):=by simp[agI,hm,jB]
def cd(n:Nat)(seen:List Nat)(m:aH):List ah:=[.hdi n seen n,.gmap m]
@[simp] theorem arc(m:aH)(l:List (Int×ah)):vV m (jB l)=some (cd l.length [] m):=rfl
@[simp] theorem aqr(l:List (Int×ah)):hN (jB l)=false:=rfl
theorem KD(b:Nat):∀(n:Nat) (l:List (Int×ah)),mw b (List.range' n l.length) (kg l)=(if n≤b then(l[b-n]?).map fun x=>.tuple [.int .i64 x.1,x.2]else none)
 |n,[]=>by simp[mw,kg]
 |n,(k,v)::r=>by
  simp only[p8,List.range'_succ,kg,mw];by_cases h:n=b
  ·subst h;simp
  ·rw[if_neg h,KD b (n+1) r];by_cases U:n≤b
   ·rw[if_pos U,if_pos (by omega)];have:b-n=(b-(n+1))+1:=by omega
    rw[this];simp
   ·rw[if_neg U,if_neg (by omega)]
@[simp] theorem T5(f:aH→Option (List ah))(fj mk:aH)(n:Nat)(seen:List Nat)(b:Nat)(l:List (Int×ah))(hi:f fj=some (cd n (seen++[b]) mk))(hm:f mk=some (jB l))(aw:n=l.length):pe f (.ptr fj 0)=(l[b]?).map fun x=>(True,.tuple [.int .i64 x.1,x.2]):=by subst aw;simp only[T6,hi,hm,cd,jB,List.getLast?_append,List.getLast?_singleton,Option.some_or,List.range_eq_range',KD,Nat.zero_le,if_true,Nat.sub_zero,Option.map_map];cases l[b]?<;>simp
theorem Qy{st:bq}{d:Nat}{K:bq→Prop}{fj mk:aH}{n:Nat}{seen:List Nat}{l:List (Int×ah)}(hi:look fj st.b=some (cd n seen mk))(hm:look mk st.b=some (jB l))(aw:n=l.length)
  (J:(∀b,b<n→b∈seen)→K {st with t:=put d (.tuple [.bool false]) st.t}) (U:∀b k v,l[b]? =some (k,v)→b∉seen→K {st with t:=put d (.tuple [.bool true,.int .i64 k,v]) st.t,b:=cw fj (cd n (seen++[b]) mk) st.b}):
  sd st d (.ptr fj 0) K:=by
 subst aw;simp only[sd,hi,cd,hm,jB,KQ,and_self,true_and];refine⟨fun h=>J fun b ae=>h b (by simpa using ae),fun b k v xi ae=>?_⟩;rw[List.range_eq_range',KD]at xi;simp only[Nat.zero_le,if_true,Nat.sub_zero,gH,ah.tuple.injEq,p6,and_true]at xi;obtain⟨⟨bL,v'⟩,ak,aB,bf⟩:=xi;simp only at aB bf;subst aB bf;exact U b bL v' ak ae
theorem ai0{n:Nat}{seen:List Nat}(aQ:seen.Nodup)(bC:∀b∈seen,b<n)(lj:∀b,b<n→b∈seen):seen.Perm (List.range n):=(List.perm_ext_iff_of_nodup aQ List.nodup_range).2 fun b=>⟨fun h=>by simpa using bC b h,fun h=>lj b (by simpa using h)⟩
theorem GI{n:Nat}{seen:List Nat}(aQ:seen.Nodup)(bC:∀b∈seen,b<n):seen.length≤n:=by have:=M9 aQ (l₂:=List.range n) (fun b ae=>by simpa using bC b ae);simpa using this
theorem Mb{n b:Nat}{seen:List Nat}(aQ:seen.Nodup)(bC:∀b∈seen,b<n)(ae:b<n)(aw:b∉seen):seen.length<n:=by have J:(b::seen).Nodup:=List.nodup_cons.2 ⟨aw,aQ⟩;have:=GI J (n:=n) (by simp;exact⟨ae,bC⟩);simp at this;omega
theorem VK{α:Type}:∀(l pre:List α),(List.range' pre.length l.length).filterMap (fun b=>(pre++l)[b]?)=l
 |[],_=>rfl
 |x::r,pre=>by have bS:=VK r (pre++[x]);simp only[pq,List.length_singleton,List.append_assoc,List.singleton_append]at bS;simp[List.range'_succ,bS]
theorem Ma{α:Type}{l:List α}{seen:List Nat}(aQ:seen.Nodup)(bC:∀b∈seen,b<l.length)(lj:∀b,b<l.length→b∈seen):(seen.filterMap fun b=>l[b]?).Perm l:=by have J:=(ai0 aQ bC lj).filterMap fun b=>l[b]?;have U:=VK l [];simp only[List.length_nil,bY,←List.range_eq_range']at U;rwa[U]at J
theorem KU{b:Nat}{seen:List Nat}(aQ:seen.Nodup)(aw:b∉seen):(seen++[b]).Nodup:=by rw[List.nodup_append];exact⟨aQ,by simp,by simp;intro a bE e;subst e;exact aw bE⟩
theorem cO.start{w:World}{ν:bc}{s:cI}{args:List ah}{ba:Array Value}(pa:ij s)(a1:Good (fe ν s) w ν s.b s.e)(ab:n3 ν s)(aL:cK w ν args ba.toList):
  cO ⟨w,ν,fe ν s,ba.size,cQ s⟩ ⟨jF 0 args,s.b,s.e,0,cQ s⟩ {tmps:=ba,defers:=[]} w ν:=by
 have oj:=xY aL;have ko:ba.size=args.length:=by simpa using oj
 have od:∀k,fresh 0 (cQ s) k→ν.bx k=none∧ν.ow k=none∧∀j b,¬ν.tr k j b:=by
  intro k ad;cases k with
  |loc m=>exact⟨(ab _).1 (pa.1 m),(ab _).2.1 (pa.2 m),(ab _).2.2⟩
  |obj m=>
   simp only[fresh,true_and]at ad;refine⟨?_,?_,(ab _).2.2⟩
   ·refine(ab _).1 ?_;cases h:look (.obj m) s.b with
    |none=>rfl
    |some x=>exact absurd (sN (.inl (by simp[h]))) ad
   ·refine(ab _).2.1 ?_;cases h:look (.obj m) s.e with
    |none=>rfl
    |some x=>exact absurd (sN (.inr (by simp[h]))) ad
 have jg:∀m,(ν.bx (.obj m)≠none∨ν.ow (.obj m)≠none)→ .obj m∈cQ s:=by
  intro m hm;refine Classical.byContradiction fun ay=>?_;obtain⟨J,U,_⟩:=od (.obj m) ⟨trivial,ay⟩;rcases hm with hm|hm
  ·exact hm J
  ·exact hm U
 refine⟨⟨a1.alt,fun k cs ad=>?_,a1.inj,fun g o eO=>?_,a1.oinj,a1.obx,a1.one,a1.otr⟩,⟨rfl,rfl,rfl,eR _,fun _ _ _=>rfl,fun b o h=>⟨h,rfl⟩,fun b o h=>.inl h,fun n b h=>h,fun n b h=>jg n (.inl (by rw[h];simp)),fun m n u h=>⟨n,u,h,.inl ⟨rfl,rfl⟩⟩,fun m n u h=>jg m (.inr (by rw[h];simp)),fun k j _ _ b h=>absurd h ((ab k).2.2 j b),fun k j b h=>absurd h ((ab k).2.2 j b),fun k j b h=>absurd h ((ab k).2.2 j b),fun _ _ _=>rfl⟩,rfl,rfl,fun i=>?_,od⟩
 ·obtain⟨bl,us,el,g1,g2,g3⟩:=a1.box k cs ad;exact⟨bl,us,el,g1,.inl g2,g3⟩
 ·obtain⟨v,us,g1,g2,g3,g4⟩:=a1.own g o eO;exact⟨v,us,g1,g2,fun bl fy=>⟨.inl (g3 bl fy).1,(g3 bl fy).2⟩,g4⟩
 ·rw[Ew];by_cases hi:i<args.length
  ·rw[if_pos (by omega)];have qt:args[i]? =some args[i]:=cf hi;obtain⟨v,ak,aB⟩:=CY i aL qt;have A8:ba[i]? =some v:=by simpa using ak
   show a7 w ν _ (ba.getD i undef);rw[Array.getD_eq_getD_getElem?,A8];simpa[List.getD,qt]using aB
  ·rw[if_neg (by omega)];simp[a7]
theorem bN.sem{P:cB}{f:FuncId}{args:List ah}{s:cI}{Q:ah→cI→Prop}(pa:ij s)
  (h:∀(w:World) (ν:bc) (ba:Array Value),ba.size=args.length→cO ⟨w,ν,fe ν s,ba.size,cQ s⟩ ⟨jF 0 args,s.b,s.e,0,cQ s⟩ {tmps:=ba,defers:=[]} w ν→
   wu P f ba w fun e w'=> ∃v st' bm bk r ai,e= .returned v∧cO ⟨w,ν,fe ν s,ba.size,cQ s⟩ st' bm w' bk∧a7 w' bk r v∧lZ ai s.b∧lZ ai s.e∧gA (inObs ai) ai.b st'.b∧oE (inObs ai) ai.e st'.e∧ij ai∧aC (inObs ai) r∧Q r ai):bN P f args s Q:=by
 intro w ν ba a1 ab aL;have ko:ba.size=args.length:=by simpa using xY aL
 have og:=cO.start pa a1 ab aL;have hm:∀(e:Ending) (w':World),(∃v st' bm bk r ai,e= .returned v∧cO ⟨w,ν,fe ν s,ba.size,cQ s⟩ st' bm w' bk∧a7 w' bk r v∧lZ ai s.b∧lZ ai s.e∧gA (inObs ai) ai.b st'.b∧oE (inObs ai) ai.e st'.e∧ij ai∧aC (inObs ai) r∧Q r ai)→
   ∃v r ai bk,e= .returned v∧Q r ai∧a7 w' bk r v∧Good (fun bl=>fe ν s bl∨w.heap.size≤bl) w' bk ai.b ai.e∧n3 bk ai∧ij ai∧pA ⟨w,ν,fe ν s,0,cQ s⟩ w' bk:=by
  rintro e w' ⟨v,st',bm,bk,r,ai,rfl,df,oy,kb,ke,a6,bz,bU,cT,c8⟩;refine⟨v,r,ai,bk.cut (inObs ai),rfl,c8,j7 (nS.cut _ w' bk) _ _ cT oy,df.good.cut a6 bz (fun bl h _=>h),?_,bU,?_⟩
  ·intro k;refine⟨?_,?_,?_⟩;rotate_left 2
   ·rintro j b ⟨ag,ae⟩;obtain⟨t1,t2⟩:=df.fr.trn k j b ae;rcases ag with ag|ag<;>obtain⟨x,h4⟩:=fD.1 ag
    ·obtain⟨bl,ca,el,ak,_⟩:=df.good.box k x (a6 k x h4).1;rw[t1]at ak;cases ak
    ·obtain⟨v',ca,ak,_⟩:=df.good.own k x (bz k x h4).1;rw[t2]at ak;cases ak
   ·intro ad;by_cases ag:inObs ai k
    ·rw[bc.cut_bx ag];rcases ag with ag|ag
     ·rw[ad]at ag;cases ag
     ·obtain⟨x,h4⟩:=fD.1 ag;obtain⟨v',ca,ak,_⟩:=df.good.own k x (bz k x h4).1;rcases df.good.one k with J|J
      ·exact J
      ·rw[J]at ak;cases ak
    ·exact(bc.cut_no ag).1
   ·intro ad;by_cases ag:inObs ai k
    ·rw[bc.cut_ow ag];rcases ag with ag|ag
     ·obtain⟨x,h4⟩:=fD.1 ag;obtain⟨bl,ca,el,ak,_⟩:=df.good.box k x (a6 k x h4).1;rcases df.good.one k with J|J
      ·rw[J]at ak;cases ak
      ·exact J
     ·rw[ad]at ag;cases ag
    ·exact(bc.cut_no ag).2.1
  ·refine⟨df.fr.os,df.fr.tape,df.fr.output,df.fr.size,df.fr.block,df.fr.keep,df.fr.fresh,fun n b h=>?_,df.fr.obn,fun m n u h=>?_,df.fr.obr,fun k j bL dD b J U=>df.fr.trd k j bL dD b J.2 U.2,fun k j b ae=>df.fr.trb k j b ae.2,fun k j b ae=>(by rw[bc.cut_bx ae.1,bc.cut_ow ae.1];exact df.fr.trn k j b ae.2),df.fr.sh⟩
   ·have ag:inObs ai (.obj n):=by
     cases au:look (.obj n) s.b with
     |none=>rw[(ab _).1 au]at h;cases h
     |some x=>exact zy kb _ (by simp[au])
    rw[bc.cut_bx ag];exact df.fr.obj n b h
   ·have ag:inObs ai (.obj m):=by
     cases au:look (.obj m) s.e with
     |none=>rw[(ab _).2.1 au]at h;cases h
     |some x=>exact zy ke _ (by simp[au])
    rw[bc.cut_ow ag];exact df.fr.row m n u h
 rcases h w ν ba ko og with⟨qq,ay⟩|⟨v,w',ay,rk⟩
 ·exact .inl ⟨qq,ay.mono hm⟩
 ·exact .inr ⟨v,w',ay,hm _ _ rk⟩
theorem cO.grown{C:e8}{st:bq}{a:Act}{w w':World}{ν:bc}(h:cO C st a w ν)(a1:w.grownBy w' none):cO C st a w' ν:=by
 have kI:ld w ν w' ν:=⟨fun b o bg=>⟨bg,D7 a1 (h.good.alt b o bg)⟩,fun _ _ _ h=>h,fun _ n u _ h=>⟨n,u,h,.inl ⟨rfl,rfl⟩⟩,fun b o bg=>vZ (a1.block b (h.good.alt b o bg) (by simp)),fun _ _ _ _ h=>h⟩;refine h.over kI rfl ⟨fun b o bg=>Nat.lt_of_lt_of_le (h.good.alt b o bg) a1.size,fun k cs ad=>?_,h.good.inj,fun g o eO=>?_,h.good.oinj,h.good.obx,h.good.one,h.good.otr⟩
  ⟨a1.os.trans h.fr.os,a1.tape.trans h.fr.tape,a1.output.trans h.fr.output,jV h.fr.size a1.size,fun k ad hm=>?_,fun b o bg=>?_,h.fr.fresh,h.fr.obj,h.fr.obn,h.fr.row,h.fr.obr,h.fr.trd,fun k j b ae=>⟨(h.fr.trb k j b ae).1,Nat.lt_of_lt_of_le (h.fr.trb k j b ae).2 a1.size⟩,h.fr.trn,fun b o bg=>(kI.sh b o (h.fr.keep b o bg).1).trans (h.fr.sh b o bg)⟩ h.new
 ·obtain⟨bl,us,el,g1,g2,g3,g4,g5⟩:=h.good.box k cs ad;exact⟨bl,us,el,g1,g2,g3,by rw[a1.block bl (Array.getElem?_eq_some_iff.1 g4).1 (by simp)];exact g4,p0 kI g5⟩
 ·obtain⟨v,us,g1,g2,g3,g4⟩:=h.good.own g o eO;exact⟨v,us,g1,g2.kept a1 (by cases v.ownBlock<;>simp),g3,rL kI (fun _ _ _ h=>h) g4⟩
 ·rw[a1.block k (Nat.lt_of_lt_of_le ad h.fr.size) (by simp)];exact h.fr.block k ad hm
 ·obtain⟨aS,bp⟩:=h.fr.keep b o bg;exact⟨aS,(kI.A b o aS).2.trans bp⟩
theorem c4.new{P:cB}{n:Nat}{args:List ah}{st:bq}{d:Option Nat}{K:bq→Prop}{s:cI}{Q:ah→cI→Prop}(aI:bN P n args s Q)(ag:ea s)(ae:∀k cs,look k s.b=some cs→look k st.b=some cs)(he:∀k o,look k s.e=some o→look k st.e=some o)
  (ad:aJ (inObs s) args) (h:∀r ai,Q r ai→(∀m,inObs ai (.obj m)→inObs s (.obj m)∧Same s ai∨ .obj m∉st.o)∧K ⟨eQ d r st.t,cv s.b st.b++ai.b,cv s.e st.e++ai.e,st.n,st.o++cQ ai⟩):c4 P n args st d K:=by
 refine .inl ⟨s,Q,fun k cs ay=>⟨ae k cs ay,.inl (by simp[ay]),ag.kb k cs ay⟩,fun k o av=>⟨he k o av,.inr (by simp[av]),ag.ke k o av⟩,ag.obj,ad,aI,fun r ai bn=>?_⟩;obtain⟨J,U⟩:=h r ai bn;refine⟨⟨fun m hm=>?_,fun m hm=>?_⟩,U⟩
 ·rcases J m (.inl hm)with⟨_,ao⟩|ao
  ·exact .inl (by rw[ao.b];exact hm)
  ·exact .inr ao
 ·rcases J m (.inr hm)with⟨_,ao⟩|ao
  ·exact .inl (by rw[ao.e];exact hm)
  ·exact .inr ao
theorem cS.new{eG:List bt}{s:cI}{Q:ah→cI→Prop}{e:Exit}{st:bq}(ai:cI)(ra:e= .ret∨e= .normal)(ag:ea ai)(fb:lZ ai s.b∧lZ ai s.e)(ae:∀k cs,look k ai.b=some cs→look k st.b=some cs)(dw:∀k o,look k ai.e=some o→look k st.e=some o)
  (h:cZ st eG fun r=>aC (inObs ai) r∧Q r ai):cS eG s Q e st:=by
 unfold cZ at h;split at h
 ·rename_i c cg aL;refine⟨ra,?_⟩;rw[aL];exact⟨h.1,ai,fb.1,fb.2,fun k cs dr=>⟨ae k cs dr,.inl (by simp[dr]),ag.kb k cs dr⟩,fun k o av=>⟨dw k o av,.inr (by simp[av]),ag.ke k o av⟩,ag.obj,h.2.1,h.2.2⟩
 ·exact h.elim
@[simp] theorem anY{P:cB}{ob:List aH}{c d:C}{Q:Exit→bq→Prop}{st:bq}{s:Nat}:cU P ob (.seq (.pub s c) d) Q st=wz P ob (.seq c d) Q (vR st s):=by simp only[cU];cases vR st s<;>rfl
@[simp] theorem anX{P:cB}{ob:List aH}{c d:C}{Q:Exit→bq→Prop}{st:bq}{s:Nat}:cU P ob (.seq (.pubB s c) d) Q st=wz P ob (.seq c d) Q (vQ st s):=by simp only[cU];cases vQ st s<;>rfl
end Go.Pv
namespace Go.Pv
open Go Go.RowKit
def tV(t:List (Nat×ah))(b9:List Nat):List (Nat×ah):=b9.map fun k=>(k,get k t)
@[simp] theorem ao2(t:List (Nat×ah)):tV t []=[]:=rfl
@[simp] theorem ao1(t:List (Nat×ah))(k:Nat)(b9:List Nat):tV t (k::b9)=(k,get k t)::tV t b9:=rfl
def pf(st:bq)(b9:List Nat)(cs:List (Nat×ah)):bq:=⟨tV st.t b9++cs,st.b,st.e,st.n,st.o⟩
theorem agG(t:List (Nat×ah))(b:List (aH×List ah))(e:List (aH×fF))(n:Nat)(o:List aH)(b9:List Nat)(cs:List (Nat×ah)):pf ⟨t,b,e,n,o⟩ b9 cs=⟨tV t b9++cs,b,e,n,o⟩:=rfl
def ym{α:Type}(S:Nat→α→bq)(n:Nat)(gI:Nat→α→Prop)(k:Nat)(st:bq):Prop:= ∃i a,i≤n∧k=n-i∧gI i a∧st=S i a
section
variable {P:cB} {ob:List aH} {st:bq} {Q:Exit→bq→Prop} {c:C} {α:Type}
theorem hR(S:Nat→α→bq)(n:Nat)(gI:Nat→α→Prop)(a0:α)(hw:iA ob st (S 0 a0))(bB:gI 0 a0)(vd:∀a,gI n a→(∀i,ec (get i (S n a).t))→cU P ob c (bP ob (ym S n gI) 0 Q) (S n a))
  (jx:∀i a,i<n→gI i a→(∀j,ec (get j (S i a).t))→cU P ob c (bP ob (ym S n gI) (n-i) Q) (S i a)):cU P ob (.loop c) Q st:=by
 refine o3 (ym S n gI) n _ hw ⟨0,a0,by omega,by omega,bB,rfl⟩ ?_;rintro k s ⟨i,a,hi,rfl,af,rfl⟩ ae _;rcases Nat.lt_or_ge i n with h|h
 ·exact jx i a h af ae
 ·obtain rfl:i=n:=by omega
  rw[Nat.sub_self];exact vd a af ae
theorem bP.rng{S:Nat→α→bq}{n:Nat}{gI:Nat→α→Prop}{i:Nat}(bm:α)(hi:i<n)(af:gI (i+1) bm)(hw:iA ob st (S (i+1) bm)):bP ob (ym S n gI) (n-i) Q .normal st:=⟨n-(i+1),_,by omega,hw,i+1,bm,by omega,rfl,af,rfl⟩
def AL{α:Type}(S:α→bq)(μ:α→Nat)(gI:α→Prop)(k:Nat)(st:bq):Prop:= ∃a,k=μ a∧gI a∧st=S a
theorem n2(S:α→bq)(μ:α→Nat)(gI:α→Prop)(a0:α)(hw:iA ob st (S a0))(bB:gI a0)
  (jx:∀a,gI a→(∀j,ec (get j (S a).t))→cU P ob c (bP ob (AL S μ gI) (μ a) Q) (S a)):cU P ob (.loop c) Q st:=by
 refine o3 (AL S μ gI) (μ a0) _ hw ⟨a0,rfl,bB,rfl⟩ ?_;rintro k s ⟨a,rfl,af,rfl⟩ ae _;exact jx a af ae
theorem bP.whl{S:α→bq}{μ:α→Nat}{gI:α→Prop}{k:Nat}(bm:α)(hm:μ bm<k)(af:gI bm)(hw:iA ob st (S bm)):bP ob (AL S μ gI) k Q .normal st:=⟨μ bm,_,hm,hw,bm,rfl,af,rfl⟩
end
theorem hO{p:Prop}(h:p:=by(try simp[*]);(repeat' first|with_reducible refine aj ?_|with_reducible refine aD (by assumption) ?_|with_reducible refine aE (by assumption) ?_|simp[*]);(all_goals first|exact bP.rng () (by assumption) (by first|assumption|trivial) b1|exact bP.rng _ (by assumption) (by assumption) b1)):p:=h
end Go.Pv
namespace Go.Pv
open Go Go.RowKit
def l0(s:cI)(n:Nat)(k:aH):Prop:=inObs s k∨ ∃m,m<n∧k= .loc m
@[simp] theorem Un(s:cI)(n m:Nat)(hm:m<n):l0 s n (.loc m):= .inr ⟨m,hm,rfl⟩
theorem zP{s:cI}{n:Nat}{l:List ah}(h:aJ (inObs s) l):aJ (l0 s n) l:=jL (fun _ h=>.inl h) l h
theorem xI{s ai:cI}(fb:Same s ai){n:Nat}{k:aH}(h:l0 ai n k):¬fresh n (cQ s) k:=by
 rcases h with h|⟨m,hm,rfl⟩
 ·exact fun aI=>aI.2 (sN ((fb.inObs k).2 h))
 ·intro aI;have:=aI.1;simp at this;omega
theorem iA.obL{s ai:cI}(gi:ea ai)(fb:Same s ai){st:bq}{dJ:List (Nat×ah)}{L:List (aH×List ah)}{n:Nat}(aN:∀x∈dJ,get x.1 st.t=x.2∧aC (l0 ai n) x.2)(jt:∀x∈L,look x.1 st.b=some x.2∧l0 ai n x.1∧aJ (l0 ai n) x.2)
  (ae:∀k cs,look k ai.b=some cs→look k st.b=some cs) (he:∀k o,look k ai.e=some o→look k st.e=some o):iA (cQ s) st ⟨dJ,L++ai.b,ai.e,n,cQ s⟩:=by
 refine⟨fun x ab=>⟨(aN x ab).1,vB (fun k ad=>xI fb ad) _ (aN x ab).2⟩,fun k cs ad=>?_,fun k o av=>?_,fun m hm=>hm⟩
 ·simp only at ad;rw[cH]at ad;cases au:look k L with
  |some x=>rw[au]at ad;simp only[dG]at ad;subst ad;obtain⟨J,U,ao⟩:=jt _ (sI au);exact⟨J,xI fb U,jL (fun k ad=>xI fb ad) _ ao⟩
  |none=>rw[au]at ad;exact⟨ae k cs ad,xI fb (.inl (.inl (by simp[ad]))),jL (fun k ad=>xI fb (.inl ad)) _ (gi.kb k cs ad)⟩
 ·exact⟨he k o av,xI fb (.inl (.inr (by simp at av;simp[av]))),fun xs ab=>jL (fun k ad=>xI fb (.inl ad)) _ (gi.ke k o av xs ab)⟩
def gX{α:Type}(l:List α)(i j:Nat):List α:=match l[i]?,l[j]? with
 |some x,some y=>(l.set i y).set j x
 |_,_=>l
section
variable {α:Type}
@[simp] theorem agb(l:List α)(i j:Nat):(gX l i j).length=l.length:=by unfold gX;split<;>simp
theorem zF(l:List α)(i j k:Nat)(hi:i<l.length)(af:j<l.length):(gX l i j)[k]? =if k=i then l[j]? else if k=j then l[i]? else l[k]?:=by
 unfold gX;rw[cf hi,cf af];simp only[List.getElem?_set,List.length_set];by_cases J:j=k
 ·subst J;by_cases U:j=i
  ·subst U;simp[hi]
  ·simp[U,af]
 ·by_cases U:i=k
  ·subst U;simp[J,hi]
  ·simp[J,U,kR J,kR U]
theorem TU(l:List α)(i j:Nat):(gX l i j).Perm l:=by
 unfold gX;split
 ·rename_i x y ab aG;obtain⟨hi,rfl⟩:=fN.1 ab;obtain⟨af,rfl⟩:=fN.1 aG;exact List.set_set_perm hi af
 ·exact .refl _
inductive gm (a b:Nat):List α→List α→Prop
 |refl (l:List α):gm a b l l
 |step {l m:List α} {i j:Nat}:gm a b l m→a≤i→i<b→a≤j→j<b→i<m.length→j<m.length→gm a b l (gX m i j)
theorem gm.length{a b:Nat}{l m:List α}(h:gm a b l m):m.length=l.length:=by
 induction h with
 |refl=>rfl
 |step _ _ _ _ _ _ _ bS=>rw[agb,bS]
theorem gm.perm{a b:Nat}{l m:List α}(h:gm a b l m):m.Perm l:=by
 induction h with
 |refl=>exact .refl _
 |step _ _ _ _ _ _ _ bS=>exact(TU _ _ _).trans bS
theorem gm.out{a b:Nat}{l m:List α}(h:gm a b l m)(k:Nat)(ad:k<a∨b≤k):m[k]? =l[k]?:=by
 induction h with
 |refl=>rfl
 |step _ J U ao a8 bZ c7 bS=>rw[zF _ _ _ _ bZ c7,if_neg (by omega),if_neg (by omega)];exact bS
theorem gm.all{a b:Nat}{l m:List α}(h:gm a b l m)(p:α→Prop)(bI:∀k x,a≤k→k<b→l[k]? =some x→p x):∀k x,a≤k→k<b→m[k]? =some x→p x:=by
 induction h with
 |refl=>exact bI
 |step _ J U ao a8 bZ c7 bS=>
  intro k x gp kX ab;rw[zF _ _ _ _ bZ c7]at ab;split at ab
  ·exact bS _ _ ao a8 ab
  ·split at ab
   ·exact bS _ _ J U ab
   ·exact bS _ _ gp kX ab
theorem gm.trans{a b:Nat}{l m r:List α}(h:gm a b l m)(cr:gm a b m r):gm a b l r:=by
 induction cr with
 |refl=>exact h
 |step _ J U ao a8 bZ c7 bS=>exact .step bS J U ao a8 bZ c7
theorem gm.mono{a b bm bO:Nat}{l m:List α}(h:gm a b l m)(bE:bm≤a)(ae:b≤bO):gm bm bO l m:=by
 induction h with
 |refl=>exact .refl _
 |step _ J U ao a8 bZ c7 bS=>exact .step bS (by omega) (by omega) (by omega) (by omega) bZ c7
def fa(lt:α→α→Bool)(a b:Nat)(l:List α):Prop:= ∀i j x y,a≤i→i<j→j<b→l[i]? =some x→l[j]? =some y→lt y x=false
structure qa (lt:α→α→Bool):Prop where
 asym:∀x y,lt x y=true→lt y x=false
 ntr:∀x y z,lt y x=false→lt z y=false→lt z x=false
theorem fa.pairwise{lt:α→α→Bool}{l:List α}(h:fa lt 0 l.length l):l.Pairwise fun x y=>lt y x=false:=by rw[pt];intro i j hi af lS;exact h i j _ _ (by omega) lS af (cf hi) (cf af)
def hP(a m b k:Nat):Nat:=if k<a then k else if k<a+(b-m)then k+(m-a)else if k<b then k-(b-m)else k
def rP(a b c k:Nat):Nat:=if a≤k∧k<a+c then b+(k-a)else if b≤k∧k<b+c then a+(k-b)else k
end
theorem ED(i j:Nat)(h:i+j≤1099511627776):IntKind.i64.wrap (Int.fdiv (hc.wrap ((i:Int)+j)) (2 ^ (min 1 hc.bits)))=((i+j)/2:Nat):=by
 have hw:hc.wrap ((i:Int)+j)=i+j:=by simp[rY,nN,rX];omega
 have Jf:hc.bits=64:=rfl;rw[hw,Jf,show(2:Int) ^ (min 1 64)=2 from by decide,Int.fdiv_eq_ediv_of_nonneg _ (by omega),oO]
 ·omega
 ·omega
end Go.Pv
namespace Go.Pv
open Go
inductive bF where
 |mk (kind n:Int) (name:List dB) (args:List bF)
def bF.kind:bF→Int| .mk k _ _ _=>k
def bF.num:bF→Int| .mk _ n _ _=>n
def bF.name:bF→List dB| .mk _ _ s _=>s
def bF.args:bF→List bF| .mk _ _ _ a=>a
mutual
def enc:bF→ah
 | .mk k n s a=>.agg [.int .i64 k,.int .i64 n,.str s,.slice 4 .no (o1 a)]
def o1:List bF→List ah
 |[]=>[]
 |x::xs=>enc x::o1 xs
end
theorem Eg:∀l,o1 l=l.map enc
 |[]=>rfl
 |x::xs=>by simp[o1,Eg xs]
theorem u0(t:bF):enc t= .agg [.int .i64 t.kind,.int .i64 t.num,.str t.name,.slice 4 .no (t.args.map enc)]:=by cases t;simp[enc,Eg,bF.kind,bF.num,bF.name,bF.args]
mutual
theorem TC(S:aH→Prop):∀t:bF,aC S (enc t)
 | .mk k n s a=>by simp[enc,aC,aJ,Ki S a]
theorem Ki(S:aH→Prop):∀l:List bF,aJ S (o1 l)
 |[]=>by simp[o1,aJ]
 |x::xs=>by simp[o1,aJ,TC S x,Ki S xs]
end
mutual
theorem Wv:∀t:bF,dh (enc t)=enc t
 | .mk k n s a=>by simp[enc,dh,cR,Ml a]
theorem Ml:∀l:List bF,cR (o1 l)=o1 l
 |[]=>by simp[o1,cR]
 |x::xs=>by simp[o1,cR,Wv x,Ml xs]
end
@[simp] theorem apt(S:aH→Prop)(t:bF):aC S (enc t)=True:=eq_true (TC S t)
@[simp] theorem apd(S:aH→Prop)(l:List bF):aJ S (l.map enc)=True:=by rw[←Eg];exact eq_true (Ki S l)
theorem ak4(l:List bF):cR (l.map enc)=l.map enc:=by rw[←Eg];exact Ml l
attribute [simp] Wv ak4
@[simp] theorem arA(t:bF):dX (enc t)=true:=by rw[u0];rfl
@[simp] theorem anB(t:bF):cells (enc t)=[.int .i64 t.kind,.int .i64 t.num,.str t.name,.slice 4 .no (t.args.map enc)]:=by rw[u0];rfl
@[simp] theorem anb(t:bF):ah.agg [.int .i64 t.kind,.int .i64 t.num,.str t.name,.slice 4 .no (t.args.map enc)]=enc t:=(u0 t).symm
@[simp] theorem aog(off:Nat)(e2:Bool)(sz:Nat)(t:bF):qZ off e2 sz (enc t)=if e2 then some (off+sz≤4,.agg (([.int .i64 t.kind,.int .i64 t.num,.str t.name,.slice 4 .no (t.args.map enc)].drop off).take sz))else(([.int .i64 t.kind,.int .i64 t.num,.str t.name,.slice 4 .no (t.args.map enc)]:List ah)[off]?).map fun p=>(True,p):=by rw[u0];rfl
@[simp] theorem an6(off:Nat)(e2:Bool)(sz:Nat)(t:bF):pH off e2 sz (.eptr (enc t))=if e2 then some (off+sz≤4,.eptr (.agg (([.int .i64 t.kind,.int .i64 t.num,.str t.name,.slice 4 .no (t.args.map enc)].drop off).take sz)))else(([.int .i64 t.kind,.int .i64 t.num,.str t.name,.slice 4 .no (t.args.map enc)]:List ah)[off]?).map fun p=>(dX p=true∧cells p=[p],.eptr p):=by rw[u0];rfl
@[simp] theorem aoV(t:bF):Pv.isAgg 4 (enc t):=by rw[u0];exact⟨_,rfl,rfl⟩
inductive T where
 |nil
 |var (n:Int)
 |sym (s:List dB)
 |num (n:Int)
 |pair (a b:T)
 deriving DecidableEq,Inhabited
def T.tm:T→bF
 | .nil=>.mk 0 0 [] []
 | .var n=>.mk 1 n [] []
 | .sym s=>.mk 2 0 s []
 | .num n=>.mk 3 n [] []
 | .pair a b=>.mk 4 0 [] [a.tm,b.tm]
def T.e:T→ah
 | .nil=>.agg [.int .i64 0,.int .i64 0,.str [],.slice 4 .no []]
 | .var n=>.agg [.int .i64 1,.int .i64 n,.str [],.slice 4 .no []]
 | .sym s=>.agg [.int .i64 2,.int .i64 0,.str s,.slice 4 .no []]
 | .num n=>.agg [.int .i64 3,.int .i64 n,.str [],.slice 4 .no []]
 | .pair a b=>.agg [.int .i64 4,.int .i64 0,.str [],.slice 4 .no [a.e,b.e]]
theorem iR:∀t:T,enc t.tm=t.e
 | .nil| .var _| .sym _| .num _=>rfl
 | .pair a b=>by simp[T.tm,enc,o1,T.e,iR a,iR b]
def T.kind:T→Int
 | .nil=>0| .var _=>1| .sym _=>2| .num _=>3| .pair _ _=>4
def T.int:T→Int
 | .var n=>n| .num n=>n|_=>0
def T.name:T→List dB
 | .sym s=>s|_=>[]
def T.args:T→List T
 | .pair a b=>[a,b]|_=>[]
theorem T.e_eq(t:T):t.e= .agg [.int .i64 t.kind,.int .i64 t.int,.str t.name,.slice 4 .no (t.args.map T.e)]:=by cases t<;>rfl
@[simp] theorem ana(t:T):ah.agg [.int .i64 t.kind,.int .i64 t.int,.str t.name,.slice 4 .no (t.args.map T.e)]=t.e:=(T.e_eq t).symm
@[simp] theorem anc:ah.agg [.int .i64 0,.int .i64 0,.str [],.slice 4 .no []]=T.nil.e:=rfl
@[simp] theorem anh(n:Int):ah.agg [.int .i64 1,.int .i64 n,.str [],.slice 4 .no []]=(T.var n).e:=rfl
@[simp] theorem ang(s:List dB):ah.agg [.int .i64 2,.int .i64 0,.str s,.slice 4 .no []]=(T.sym s).e:=rfl
@[simp] theorem ane(n:Int):ah.agg [.int .i64 3,.int .i64 n,.str [],.slice 4 .no []]=(T.num n).e:=rfl
@[simp] theorem anf(a b:T):ah.agg [.int .i64 4,.int .i64 0,.str [],.slice 4 .no [a.e,b.e]]=(T.pair a b).e:=rfl
@[simp] theorem aof(off:Nat)(e2:Bool)(sz:Nat)(t:T):qZ off e2 sz t.e=if e2 then some (off+sz≤4,.agg (([.int .i64 t.kind,.int .i64 t.int,.str t.name,.slice 4 .no (t.args.map T.e)].drop off).take sz))else(([.int .i64 t.kind,.int .i64 t.int,.str t.name,.slice 4 .no (t.args.map T.e)]:List ah)[off]?).map fun p=>(True,p):=by rw[T.e_eq];rfl
@[simp] theorem an5(off:Nat)(e2:Bool)(sz:Nat)(t:T):pH off e2 sz (.eptr t.e)=if e2 then some (off+sz≤4,.eptr (.agg (([.int .i64 t.kind,.int .i64 t.int,.str t.name,.slice 4 .no (t.args.map T.e)].drop off).take sz)))else(([.int .i64 t.kind,.int .i64 t.int,.str t.name,.slice 4 .no (t.args.map T.e)]:List ah)[off]?).map fun p=>(dX p=true∧cells p=[p],.eptr p):=by rw[T.e_eq];rfl
@[simp] theorem afU:(T.nil).kind=0:=rfl
@[simp] theorem afo:(T.nil).int=0:=rfl
@[simp] theorem agL:(T.nil).name=[]:=rfl
@[simp] theorem Yf:(T.nil).args=[]:=rfl
@[simp] theorem afZ(n:Int):(T.var n).kind=1:=rfl
@[simp] theorem afs(n:Int):(T.var n).int=n:=rfl
@[simp] theorem agQ(n:Int):(T.var n).name=[]:=rfl
@[simp] theorem Yj(n:Int):(T.var n).args=[]:=rfl
@[simp] theorem afY(s:List dB):(T.sym s).kind=2:=rfl
@[simp] theorem afr(s:List dB):(T.sym s).int=0:=rfl
@[simp] theorem agP(s:List dB):(T.sym s).name=s:=rfl
@[simp] theorem Yi(s:List dB):(T.sym s).args=[]:=rfl
@[simp] theorem afV(n:Int):(T.num n).kind=3:=rfl
@[simp] theorem afp(n:Int):(T.num n).int=n:=rfl
@[simp] theorem agM(n:Int):(T.num n).name=[]:=rfl
@[simp] theorem Yg(n:Int):(T.num n).args=[]:=rfl
@[simp] theorem afW(a b:T):(T.pair a b).kind=4:=rfl
@[simp] theorem afq(a b:T):(T.pair a b).int=0:=rfl
@[simp] theorem agN(a b:T):(T.pair a b).name=[]:=rfl
@[simp] theorem Yh(a b:T):(T.pair a b).args=[a,b]:=rfl
@[simp] theorem aps(S:aH→Prop)(t:T):aC S t.e=True:=by rw[←iR];simp
@[simp] theorem ar1(t:T):dh t.e=t.e:=by rw[←iR];simp
theorem Tv(S:aH→Prop):∀l:List T,aJ S (l.map T.e)
 |[]=>by simp[aJ]
 |x::xs=>by simp[aJ,Tv S xs]
@[simp] theorem Tu(S:aH→Prop)(l:List T):aJ S (l.map T.e)=True:=eq_true (Tv S l)
@[simp] theorem ak3:∀l:List T,cR (l.map T.e)=l.map T.e
 |[]=>rfl
 |x::xs=>by simp[cR,ak3 xs]
@[simp] theorem arz(t:T):dX t.e=true:=by rw[T.e_eq];rfl
@[simp] theorem anA(t:T):cells t.e=[.int .i64 t.kind,.int .i64 t.int,.str t.name,.slice 4 .no (t.args.map T.e)]:=by rw[T.e_eq];rfl
@[simp] theorem aoU(t:T):Pv.isAgg 4 t.e:=by rw[T.e_eq];exact⟨_,rfl,rfl⟩
def T.size:T→Nat
 | .pair a b=>1+a.size+b.size
 |_=>1
theorem T.size_pos(t:T):1≤t.size:=by cases t<;>simp[T.size]<;>omega
def low(b:dB):Bool:=decide (97≤b.toNat∧b.toNat≤122)
def ml(b:dB):Bool:=low b||decide (48≤b.toNat∧b.toNat≤57)||b.toNat==45
def jy(s:List dB):Bool:=decide (1≤s.length∧s.length≤12)&&low (s.getD 0 0)&&(s.drop 1).all ml
def T.ok:T→Bool
 | .nil=>true
 | .var n=>decide (0≤n∧n≤100000)
 | .sym s=>jy s
 | .num n=>decide (-1000000000≤n∧n≤1000000000)
 | .pair a b=>a.ok&&b.ok
def k4(k n:Int)(s:List dB):Bool:=if k=0 then n==0&&s==[]else if k=1 then decide (0≤n∧n≤100000)&&s==[]else if k=2 then n==0&&jy s else if k=3 then decide (-1000000000≤n∧n≤1000000000)&&s==[]else false
def fq:bF→Int→Int
 | .mk k n s [a,b],room=>if room<1∨k≠4∨n≠0∨s≠[]then-1 else if fq a (room-1)<0 then-1 else if fq b (room-1-fq a (room-1))<0 then-1 else 1+fq a (room-1)+fq b (room-1-fq a (room-1))
 | .mk k n s args,room=>if room<1∨k=4∨args≠[]∨k4 k n s=false then-1 else 1
theorem KR(k n:Int)(s:List dB)(args:List bF)(room:Int):fq (.mk k n s args) room=if room<1 then-1 else if k≠4 then(if args≠[]then-1 else if k4 k n s then 1 else-1)else if n≠0∨s≠[]then-1 else match args with
  |[a,b]=>if fq a (room-1)<0 then-1 else if fq b (room-1-fq a (room-1))<0 then-1 else 1+fq a (room-1)+fq b (room-1-fq a (room-1))
  |_=> -1:=by
 match args with
 |[]=>simp only[fq];by_cases J:room<1<;>by_cases U:k=4<;>by_cases ao:k4 k n s=true<;>simp[J,U,ao]
 |[a]=>simp[fq]
 |[a,b]=>simp only[fq];by_cases J:room<1<;>by_cases U:k=4<;>simp[J,U]
 |a::b::c::r=>simp[fq]
theorem FQ:∀(t:T) (room:Int),fq t.tm room=if t.ok=true∧(t.size:Int)≤room then(t.size:Int)else-1
 | .nil,room=>by simp[T.tm,fq,T.ok,T.size,k4];split<;>rename_i h<;>simp_all<;>omega
 | .var n,room=>by simp[T.tm,fq,T.ok,T.size,k4];split<;>split<;>simp_all<;>omega
 | .sym s,room=>by simp[T.tm,fq,T.ok,T.size,k4];by_cases J:room<1<;>by_cases U:jy s=true<;>simp[J,U]<;>omega
 | .num n,room=>by simp[T.tm,fq,T.ok,T.size,k4];split<;>split<;>simp_all<;>omega
 | .pair a b,room=>by
  have bE:=a.size_pos;have ae:=b.size_pos;simp only[T.tm,fq,FQ a,FQ b,T.ok,T.size,cz];by_cases J:room<1
  ·simp[J];omega
  ·by_cases U:a.ok=true∧(a.size:Int)≤room-1
   ·rw[if_pos U];by_cases ao:b.ok=true∧(b.size:Int)≤room-1-a.size
    ·rw[if_pos ao];simp[J,U.1,ao.1];split<;>omega
    ·rw[if_neg ao];simp[J,U.1];intro ll;have:=ao;simp[ll]at this;omega
   ·rw[if_neg U];simp[J];intro kW;have:=U;simp[kW]at this;omega
theorem Cx:∀(t:bF) (room:Int),fq t room= -1∨1≤fq t room
 | .mk k n s [a,b],room=>by
  simp only[fq];split
  ·exact .inl rfl
  ·split
   ·exact .inl rfl
   ·split
    ·exact .inl rfl
    ·right;omega
 | .mk k n s [],room=>by simp only[fq];split<;>simp
 | .mk k n s [a],room=>by simp[fq]
 | .mk k n s (a::b::c::r),room=>by simp[fq]
theorem KT:∀(t:bF) (room:Int),0<fq t room→∃x:T,x.tm=t
 | .mk k n s [a,b],room,h=>by
  simp only[fq]at h;split at h
  ·omega
  ·rename_i J;simp only[not_or,Int.not_lt,ne_eq,ash]at J;obtain⟨J,rfl,rfl,rfl⟩:=J;split at h
   ·omega
   ·split at h
    ·omega
    ·obtain⟨x,rfl⟩:=KT a (room-1) (by rcases Cx a (room-1)with h|h<;>omega);obtain⟨y,rfl⟩:=KT b (room-1-fq x.tm (room-1)) (by rcases Cx b (room-1-fq x.tm (room-1))with h|h<;>omega);exact⟨.pair x y,rfl⟩
 | .mk k n s [],room,h=>by
  simp only[fq]at h;split at h
  ·omega
  ·rename_i J;simp only[not_or,ne_eq,not_true_eq_false,not_false_eq_true,true_and,Bool.not_eq_false]at J;obtain⟨_,_,J⟩:=J;unfold k4 at J;split at J
   ·rename_i e;subst e;simp at J;obtain⟨rfl,rfl⟩:=J;exact⟨.nil,rfl⟩
   ·split at J
    ·rename_i e;subst e;simp at J;obtain⟨_,rfl⟩:=J;exact⟨.var n,rfl⟩
    ·split at J
     ·rename_i e;subst e;simp at J;obtain⟨rfl,_⟩:=J;exact⟨.sym s,rfl⟩
     ·split at J
      ·rename_i e;subst e;simp at J;obtain⟨_,rfl⟩:=J;exact⟨.num n,rfl⟩
      ·cases J
 | .mk k n s [a],room,h=>by simp[fq]at h
 | .mk k n s (a::b::c::r),room,h=>by simp[fq]at h
theorem KS:∀(t:bF) (room:Int),fq t room≤room∨fq t room= -1
 | .mk k n s [a,b],room=>by
  simp only[fq];split
  ·exact .inr rfl
  ·split
   ·exact .inr rfl
   ·split
    ·exact .inr rfl
    ·rcases KS b (room-1-fq a (room-1))with h|h<;>omega
 | .mk k n s [],room=>by simp only[fq];split<;>simp;rename_i h;omega
 | .mk k n s [a],room=>by simp[fq]
 | .mk k n s (a::b::c::r),room=>by simp[fq]
mutual
def bF.sz:bF→Nat
 | .mk _ _ _ a=>1+bF.szL a
def bF.szL:List bF→Nat
 |[]=>0
 |x::xs=>x.sz+bF.szL xs
end
theorem szL_mem:∀{l:List bF} {x:bF},x∈l→x.sz≤bF.szL l
 |y::l,x,h=>by
  rcases fU.1 h with rfl|h
  ·simp[bF.szL]
  ·have:=szL_mem h;simp[bF.szL];omega
theorem Mv{t x:bF}(h:x∈t.args):x.sz<t.sz:=by cases t;simp[bF.args]at h;have:=szL_mem h;simp[bF.sz];omega
def T.fit(t:T):Bool:=t.ok&&decide (t.size≤5000)
def bF.fits(t:bF):Bool:=decide (0<fq t 5000)
theorem bF.fits_T(t:T):t.tm.fits=t.fit:=by
 unfold bF.fits T.fit;rw[FQ];have:=t.size_pos;by_cases J:t.ok=true<;>by_cases U:t.size≤5000
 ·rw[if_pos ⟨J,by omega⟩];simp[J,U];omega
 ·rw[if_neg (by omega)];simp[U]
 ·rw[if_neg (by simp[J])];simp[J]
 ·rw[if_neg (by simp[J])];simp[J]
theorem bF.fits_ex{t:bF}(h:t.fits=true):∃x:T,x.tm=t∧x.fit=true:=by obtain⟨x,rfl⟩:=KT t 5000 (by simpa[bF.fits]using h);exact⟨x,rfl,by rw[←bF.fits_T];exact h⟩
structure ar where
 v:Int
 t:T
 deriving DecidableEq,Inhabited
def ar.e(b:ar):ah:= .agg [.int .i64 b.v,.int .i64 b.t.kind,.int .i64 b.t.int,.str b.t.name,.slice 4 .no (b.t.args.map T.e)]
@[simp] theorem ar.eta(b:ar):ar.mk b.v b.t=b:=rfl
@[simp] theorem Nv(v:Int)(t:T):ah.agg [.int .i64 v,.int .i64 t.kind,.int .i64 t.int,.str t.name,.slice 4 .no (t.args.map T.e)]=(ar.mk v t).e:=rfl
@[simp] theorem am5(v:Int):ah.agg [.int .i64 v,.int .i64 0,.int .i64 0,.str [],.slice 4 .no []]=(ar.mk v .nil).e:=rfl
@[simp] theorem am9(v n:Int):ah.agg [.int .i64 v,.int .i64 1,.int .i64 n,.str [],.slice 4 .no []]=(ar.mk v (.var n)).e:=rfl
@[simp] theorem am8(v:Int)(s:List dB):ah.agg [.int .i64 v,.int .i64 2,.int .i64 0,.str s,.slice 4 .no []]=(ar.mk v (.sym s)).e:=rfl
@[simp] theorem am6(v n:Int):ah.agg [.int .i64 v,.int .i64 3,.int .i64 n,.str [],.slice 4 .no []]=(ar.mk v (.num n)).e:=rfl
@[simp] theorem am7(v:Int)(a b:T):ah.agg [.int .i64 v,.int .i64 4,.int .i64 0,.str [],.slice 4 .no [a.e,b.e]]=(ar.mk v (.pair a b)).e:=rfl
@[simp] theorem apk(S:aH→Prop)(b:ar):aC S b.e=True:=by simp[ar.e,-Nv]
@[simp] theorem arU(b:ar):dh b.e=b.e:=by simp[ar.e,-Nv]
theorem Tr(S:aH→Prop):∀l:List ar,aJ S (l.map ar.e)
 |[]=>by simp[aJ]
 |x::xs=>by simp[aJ,Tr S xs]
@[simp] theorem ao9(S:aH→Prop)(l:List ar):aJ S (l.map ar.e)=True:=eq_true (Tr S l)
@[simp] theorem Wu:∀l:List ar,cR (l.map ar.e)=l.map ar.e
 |[]=>rfl
 |x::xs=>by simp[cR,Wu xs]
@[simp] theorem aro(b:ar):dX b.e=true:=rfl
@[simp] theorem anr(b:ar):cells b.e=[.int .i64 b.v,.int .i64 b.t.kind,.int .i64 b.t.int,.str b.t.name,.slice 4 .no (b.t.args.map T.e)]:=rfl
@[simp] theorem aoR(b:ar):Pv.isAgg 5 b.e:=⟨_,rfl,rfl⟩
@[simp] theorem aod(off:Nat)(e2:Bool)(sz:Nat)(b:ar):qZ off e2 sz b.e=if e2 then some (off+sz≤5,.agg (([.int .i64 b.v,.int .i64 b.t.kind,.int .i64 b.t.int,.str b.t.name,.slice 4 .no (b.t.args.map T.e)].drop off).take sz))else(([.int .i64 b.v,.int .i64 b.t.kind,.int .i64 b.t.int,.str b.t.name,.slice 4 .no (b.t.args.map T.e)]:List ah)[off]?).map fun p=>(True,p):=rfl
@[simp] theorem an3(off:Nat)(e2:Bool)(sz:Nat)(b:ar):pH off e2 sz (.eptr b.e)=if e2 then some (off+sz≤5,.eptr (.agg (([.int .i64 b.v,.int .i64 b.t.kind,.int .i64 b.t.int,.str b.t.name,.slice 4 .no (b.t.args.map T.e)].drop off).take sz)))else(([.int .i64 b.v,.int .i64 b.t.kind,.int .i64 b.t.int,.str b.t.name,.slice 4 .no (b.t.args.map T.e)]:List ah)[off]?).map fun p=>(dX p=true∧cells p=[p],.eptr p):=rfl
def T.occ(v:Int):T→Bool
 | .var n=>n==v
 | .pair a b=>a.occ v||b.occ v
 |_=>false
def ez(a b:Int):Int:=if a<b then-1 else if b<a then 1 else 0
def ku(a b:List dB):Int:=if a=b then 0 else if hl a b then-1 else 1
def eu:T→T→Int
 | .pair a b,.pair c d=>if eu a c=0 then eu b d else eu a c
 |x,y=>if x.kind≠y.kind then ez x.kind y.kind else if x.int≠y.int then ez x.int y.int else ku x.name y.name
structure cW where
 v:Int
 t:bF
def cW.e(b:cW):ah:= .agg [.int .i64 b.v,.int .i64 b.t.kind,.int .i64 b.t.num,.str b.t.name,.slice 4 .no (b.t.args.map enc)]
def ar.b(b:ar):cW:=⟨b.v,b.t.tm⟩
theorem ar.b_e(b:ar):b.b.e=b.e:=by obtain⟨v,t⟩:=b;cases t<;>simp only[ar.b,cW.e,ar.e,T.tm,bF.kind,bF.num,bF.name,bF.args,iR,afU,afZ,afY,afV,afW,afo,afs,afr,afp,afq,agL,agQ,agP,agM,agN,Yf,Yj,Yi,Yg,Yh,gG,mC]
@[simp] theorem cW.eta(b:cW):cW.mk b.v b.t=b:=rfl
@[simp] theorem Nw(v:Int)(t:bF):ah.agg [.int .i64 v,.int .i64 t.kind,.int .i64 t.num,.str t.name,.slice 4 .no (t.args.map enc)]=(cW.mk v t).e:=rfl
@[simp] theorem apm(S:aH→Prop)(b:cW):aC S b.e=True:=by simp[cW.e,-Nw]
@[simp] theorem arW(b:cW):dh b.e=b.e:=by simp[cW.e,-Nw]
theorem Tt(S:aH→Prop):∀l:List cW,aJ S (l.map cW.e)
 |[]=>by simp[aJ]
 |x::xs=>by simp[aJ,Tt S xs]
@[simp] theorem apb(S:aH→Prop)(l:List cW):aJ S (l.map cW.e)=True:=eq_true (Tt S l)
@[simp] theorem ak2:∀l:List cW,cR (l.map cW.e)=l.map cW.e
 |[]=>rfl
 |x::xs=>by simp[cR,ak2 xs]
@[simp] theorem ars(b:cW):dX b.e=true:=rfl
@[simp] theorem anu(b:cW):cells b.e=[.int .i64 b.v,.int .i64 b.t.kind,.int .i64 b.t.num,.str b.t.name,.slice 4 .no (b.t.args.map enc)]:=rfl
@[simp] theorem aoT(b:cW):Pv.isAgg 5 b.e:=⟨_,rfl,rfl⟩
@[simp] theorem aoe(off:Nat)(e2:Bool)(sz:Nat)(b:cW):qZ off e2 sz b.e=if e2 then some (off+sz≤5,.agg (([.int .i64 b.v,.int .i64 b.t.kind,.int .i64 b.t.num,.str b.t.name,.slice 4 .no (b.t.args.map enc)].drop off).take sz))else(([.int .i64 b.v,.int .i64 b.t.kind,.int .i64 b.t.num,.str b.t.name,.slice 4 .no (b.t.args.map enc)]:List ah)[off]?).map fun p=>(True,p):=rfl
@[simp] theorem an4(off:Nat)(e2:Bool)(sz:Nat)(b:cW):pH off e2 sz (.eptr b.e)=if e2 then some (off+sz≤5,.eptr (.agg (([.int .i64 b.v,.int .i64 b.t.kind,.int .i64 b.t.num,.str b.t.name,.slice 4 .no (b.t.args.map enc)].drop off).take sz)))else(([.int .i64 b.v,.int .i64 b.t.kind,.int .i64 b.t.num,.str b.t.name,.slice 4 .no (b.t.args.map enc)]:List ah)[off]?).map fun p=>(dX p=true∧cells p=[p],.eptr p):=rfl
def zR(l:List cW)(i:Nat):Prop:= ∀b,l[i]? =some b→(0≤b.v∧b.v≤100000)∧(∀c,0<i→l[i-1]? =some c→c.v<b.v)∧b.t.fits=true
def yq(l:List cW):Prop:=l.length≤400∧∀i,i<l.length→zR l i
theorem qF:∀a b:T,eu a b=0↔a=b
 | .pair a b,.pair c d=>by
  simp only[eu,T.pair.injEq];split
  ·rename_i h;rw[qF b d,←qF a c];simp[h]
  ·rename_i h;simp[h,←qF a c]
 | .nil,y=>by cases y<;>simp[eu,ez,ku]
 | .var n,y=>by cases y<;>simp[eu,ez,ku]<;>omega
 | .sym s,y=>by cases y<;>simp[eu,ez,ku];rename_i ai;by_cases h:s=ai<;>simp[h];by_cases U:hl s ai=true<;>simp[U]
 | .num n,y=>by cases y<;>simp[eu,ez,ku]<;>omega
 | .pair a b,.nil| .pair a b,.var _| .pair a b,.sym _| .pair a b,.num _=>by simp[eu,ez]
def T.sub(f:Int→Option T):T→T
 | .var n=>match f n with|some x=>x|none=>.var n
 | .pair a b=>.pair (a.sub f) (b.sub f)
 |t=>t
def k5(f:Int→Int):T→Int
 | .var n=>if 5001<f n then 5001 else f n
 | .pair a b=>if 5000<k5 f a then k5 f a else if 5001<1+k5 f a+k5 f b then 5001 else 1+k5 f a+k5 f b
 |_=>1
theorem GM(f:Int→Int)(aI:∀v,-1≤f v):∀t,-1≤k5 f t∧k5 f t≤5001
 | .var n=>by have:=aI n;simp only[k5];split<;>omega
 | .pair a b=>by have:=GM f aI a;have:=GM f aI b;simp only[k5];split<;>(try split)<;>omega
 | .nil| .sym _| .num _=>by simp[k5]
def di(l:List ar)(v:Int):Option T:=(l.find? fun b=>b.v==v).map (·.t)
end Go.Pv
namespace Go.Pv
open Go
structure jo {α:Type} (c:α→α→Int):Prop where
 neg:∀a b,c b a= -c a b
 tr:∀a b d,c a b≤0→c b d≤0→c a d≤0
 zero:∀a b,c a b=0↔a=b
section
variable {α:Type} {c:α→α→Int}
def hB(c:α→α→Int)(a b:α):Bool:=decide (c a b<0)
theorem jo.ltOk(h:jo c):qa (hB c):=by
 refine⟨fun x y hK=>?_,fun x y z J U=>?_⟩
 ·simp only[hB,fE,hE]at hK⊢;rw[h.neg x y];omega
 ·simp only[hB,hE]at J U⊢;have ak:=h.neg x y;have aB:=h.neg y z;have bf:=h.neg x z;have:=h.tr x y z (by omega) (by omega);omega
theorem jo.refl(h:jo c)(a:α):c a a=0:=(h.zero a a).2 rfl
theorem jo.ltr(h:jo c){a b d:α}(J:c a b<0)(U:c b d≤0):c a d<0:=by
 have ao:=h.tr a b d (by omega) U;rcases(by omega:c a d<0∨c a d=0)with a8|a8
 ·exact a8
 ·obtain rfl:=(h.zero a d).1 a8;have:=h.neg a b;omega
def oC(c:α→α→Int)(l:List α):List α:=l.mergeSort fun x y=>decide (c x y≤0)
theorem x7(c:α→α→Int)(l:List α):(oC c l).Perm l:=List.mergeSort_perm l _
theorem Mj(h:jo c)(l:List α):(oC c l).Pairwise fun x y=>c x y≤0:=by have:=List.pairwise_mergeSort (le:=fun x y=>decide (c x y≤0)) (fun a b d J U=>by simp at J U⊢;exact h.tr a b d J U) (fun a b=>by simp;have:=h.neg a b;omega) l;exact this.imp (by simp)
theorem Wr(h:jo c){l aZ:List α}(bI:aZ.Perm l)(ag:aZ.Pairwise fun x y=>hB c y x=false):aZ=oC c l:=by refine Na (le:=fun x y=>c x y≤0) (fun x y _ _ J U=>(h.zero x y).1 (by have:=h.neg x y;omega)) (ag.imp fun{x y} hK=>?_) (Mj h l) (bI.trans (x7 c l).symm);simp only[hB,hE]at hK;have:=h.neg x y;omega
def cG[DecidableEq α](p:Option α):List α→List α
 |[]=>[]
 |x::r=>if p=some x then cG (some x) r else x::cG (some x) r
def asc[DecidableEq α](c:α→α→Int)(l:List α):List α:=cG none (oC c l)
def hF(c:α→α→Int)(l:List α):Prop:=l.Pairwise fun x y=>c x y<0
variable [DecidableEq α]
theorem If:∀(l:List α) (p:Option α) (x:α),x∈cG p l→x∈l
 |[],_,_,h=>by simp[cG]at h
 |y::r,p,x,h=>by
  simp only[cG]at h;split at h
  ·exact ps _ (If r _ x h)
  ·rcases fU.1 h with rfl|h
   ·simp
   ·exact ps _ (If r _ x h)
theorem KF:∀(l:List α) (p:Option α) (x:α),x∈l→x∈cG p l∨p=some x
 |y::r,p,x,h=>by
  simp only[cG];rcases fU.1 h with rfl|h
  ·split
   ·rename_i U;exact .inr U
   ·simp
  ·split
   ·rename_i U;rcases KF r (some y) x h with ao|ao
    ·exact .inl ao
    ·cases ao;exact .inr U
   ·rcases KF r (some y) x h with ao|ao
    ·exact .inl (ps _ ao)
    ·cases ao;simp
theorem Ql(ay:jo c):∀(l:List α) (p:Option α),l.Pairwise (fun x y=>c x y≤0)→(∀y,p=some y→∀x∈l,c y x≤0)→hF c (cG p l)∧∀y,p=some y→∀x∈cG p l,c y x<0
 |[],p,_,_=>⟨asp,fun y _ x ab=>by simp[cG]at ab⟩
 |z::r,p,h,bI=>by
  obtain⟨J,U⟩:=mE.1 h;have bS:=Ql ay r (some z) U (fun y aG x ab=>by cases aG;exact J x ab);simp only[cG];split
  ·rename_i ao;subst ao;exact bS
  ·rename_i ao;refine⟨mE.2 ⟨fun x ab=>bS.2 z rfl x ab,bS.1⟩,fun y aG x ab=>?_⟩;subst aG;have rr:c y z<0:=by
    have a8:=bI y rfl z (by simp);rcases(by omega:c y z<0∨c y z=0)with bZ|bZ
    ·exact bZ
    ·exact absurd (e7 some ((ay.zero y z).1 bZ)) ao
   rcases fU.1 ab with rfl|ab
   ·exact rr
   ·exact ay.ltr rr (by have:=bS.2 z rfl x ab;omega)
theorem HC(ay:jo c)(l:List α):hF c (asc c l):=(Ql ay _ none (Mj ay l) (fun y h=>by cases h)).1
theorem T3(l:List α)(x:α):x∈asc c l↔x∈l:=by
 constructor
 ·intro h;exact(x7 c l).mem_iff.1 (If _ _ _ h)
 ·intro h;rcases KF (oC c l) none x ((x7 c l).mem_iff.2 h)with h|h
  ·exact h
  ·cases h
omit [DecidableEq α]in
theorem hF.ext(ay:jo c){l aZ:List α}(h:hF c l)(cr:hF c aZ)(hm:∀x,x∈l↔x∈aZ):l=aZ:=by
 have aQ:∀{l:List α},hF c l→l.Nodup:=fun{l} h=>h.imp fun{a b} h e=>by subst e;have:=ay.refl a;omega
 refine Na (le:=fun x y=>c x y≤0) (fun x y _ _ J U=>(ay.zero x y).1 (by have:=ay.neg x y;omega)) (h.imp fun h=>by omega) (cr.imp fun h=>by omega) ?_;exact(List.perm_ext_iff_of_nodup (aQ h) (aQ cr)).2 hm
omit [DecidableEq α]in
theorem hF.nodup(ay:jo c){l:List α}(h:hF c l):l.Nodup:=h.imp fun{a b} h e=>by subst e;have:=ay.refl a;omega
end
theorem HH:∀a b:List dB,hl a b=true→hl b a=false
 |_,[],h=>by simp[hl]at h
 |[],_::_,_=>by simp[hl]
 |x::a,y::b,h=>by
  simp only[hl,mB,fE,cz,dL]at h;simp only[hl,Bool.or_eq_false_iff,hE,Bool.and_eq_false_iff];rcases h with h|⟨rfl,h⟩
  ·refine⟨fun U=>?_,.inl ?_⟩
   ·rw[UInt8.lt_iff_toNat_lt]at h U;omega
   ·simp;intro e;subst e;rw[UInt8.lt_iff_toNat_lt]at h;omega
  ·exact⟨fun U=>by rw[UInt8.lt_iff_toNat_lt]at U;omega,.inr (HH a b h)⟩
theorem NO:∀a b:List dB,a≠b→hl a b=false→hl b a=true
 |[],[],h,_=>absurd rfl h
 |x::a,[],_,_=>by simp[hl]
 |[],_::_,_,h=>by simp[hl]at h
 |x::a,y::b,cF,h=>by
  simp only[hl,Bool.or_eq_false_iff,hE,Bool.and_eq_false_iff]at h;simp only[hl,mB,fE,cz,dL];by_cases e:x=y
  ·subst e;right;refine⟨rfl,NO a b (fun e=>cF (by rw[e])) ?_⟩;rcases h.2 with U|U
   ·simp at U
   ·exact U
  ·left;have J:=h.1;rw[UInt8.lt_iff_toNat_lt]at J⊢;have:x.toNat≠y.toNat:=fun h=>e (UInt8.toNat_inj.1 h);omega
theorem NN:∀a b d:List dB,hl a b=true→hl b d=true→hl a d=true
 |_,[],_,h,_=>by simp[hl]at h
 |_,_::_,[],_,h=>by simp[hl]at h
 |[],_::_,_::_,_,_=>by simp[hl]
 |x::a,y::b,z::d,J,U=>by
  simp only[hl,mB,fE,cz,dL,UInt8.lt_iff_toNat_lt]at J U⊢;rcases J with J|⟨rfl,J⟩<;>rcases U with U|⟨rfl,U⟩
  ·left;omega
  ·left;exact J
  ·left;exact U
  ·exact .inr ⟨rfl,NN a b d J U⟩
theorem j6:jo ez:=by
 refine⟨fun a b=>?_,fun a b d=>?_,fun a b=>?_⟩
 ·simp only[ez];repeat' split
  all_goals omega
 ·simp only[ez];repeat' split
  all_goals omega
 ·simp only[ez];repeat' split
  all_goals omega
theorem CI:jo ku:=by
 have aw:∀a b,ku b a= -ku a b:=fun a b=>by
  simp only[ku];by_cases e:a=b
  ·subst e;simp
  ·rw[if_neg e,if_neg (kR e)];cases h:hl a b with
   |true=>simp[HH a b h]
   |false=>simp[NO a b e h]
 refine⟨aw,fun a b d J U=>?_,fun a b=>?_⟩
 ·simp only[ku]at J U⊢;by_cases ak:a=b
  ·subst ak;exact U
  ·by_cases aB:b=d
   ·subst aB;exact J
   ·rw[if_neg ak]at J;rw[if_neg aB]at U;have g1:hl a b=true:=by cases h:hl a b<;>simp[h]at J⊢
    have g2:hl b d=true:=by cases h:hl b d<;>simp[h]at U⊢
    rw[NN a b d g1 g2];split<;>simp
 ·simp only[ku];by_cases e:a=b
  ·simp[e]
  ·rw[if_neg e];simp[e];split<;>omega
theorem rG{a b:T}(h:a.kind≠b.kind):eu a b=ez a.kind b.kind:=by cases a<;>cases b<;>simp at h<;>simp[eu]
theorem F0:∀a b:T,eu b a= -eu a b
 | .pair a b,.pair c d=>by
  simp only[eu];have J:=F0 a c;have U:=F0 b d;by_cases e:eu a c=0
  ·rw[if_pos e,if_pos (by omega),U]
  ·rw[if_neg e,if_neg (by omega),J]
 | .nil,y=>by
  by_cases ad:T.nil.kind=y.kind
  ·cases y<;>simp at ad;simp[eu,ku]
  ·rw[rG ad,rG (kR ad),j6.neg]
 | .var n,y=>by
  by_cases ad:(T.var n).kind=y.kind
  ·cases y<;>simp at ad;rename_i m;by_cases e:n=m
   ·subst e;simp[eu,ku]
   ·simp[eu,e,kR e,j6.neg n m]
  ·rw[rG ad,rG (kR ad),j6.neg]
 | .sym s,y=>by
  by_cases ad:(T.sym s).kind=y.kind
  ·cases y<;>simp at ad;rename_i m;simp[eu,CI.neg s m]
  ·rw[rG ad,rG (kR ad),j6.neg]
 | .num n,y=>by
  by_cases ad:(T.num n).kind=y.kind
  ·cases y<;>simp at ad;rename_i m;by_cases e:n=m
   ·subst e;simp[eu,ku]
   ·simp[eu,e,kR e,j6.neg n m]
  ·rw[rG ad,rG (kR ad),j6.neg]
 | .pair a b,.nil| .pair a b,.var _| .pair a b,.sym _| .pair a b,.num _=>by simp[eu,ez]
theorem FZ{a b:T}(h:eu a b≤0):a.kind≤b.kind:=by
 by_cases ad:a.kind=b.kind
 ·omega
 ·rw[rG ad]at h;simp only[ez]at h;repeat' split at h
  all_goals omega
theorem UP(n m:Int):eu (.var n) (.var m)=ez n m:=by
 simp only[eu,T.kind,T.int,T.name,ku];by_cases e:n=m
 ·subst e;simp[ez]
 ·simp[e]
theorem UO(n m:Int):eu (.num n) (.num m)=ez n m:=by
 simp only[eu,T.kind,T.int,T.name,ku];by_cases e:n=m
 ·subst e;simp[ez]
 ·simp[e]
theorem aiU(n m:List dB):eu (.sym n) (.sym m)=ku n m:=by simp[eu]
theorem F1(a b d:T)(bE:a.kind≠4)(J:eu a b≤0)(U:eu b d≤0):eu a d≤0:=by
 have aS:=FZ J;have bp:=FZ U;by_cases ad:a.kind=d.kind
 ·cases a<;>cases d<;>simp at ad bE;all_goals(cases b<;>simp at aS bp)
  ·simp[eu,ku]
  ·rw[UP]at J U⊢;exact j6.tr _ _ _ J U
  ·rw[aiU]at J U⊢;exact CI.tr _ _ _ J U
  ·rw[UO]at J U⊢;exact j6.tr _ _ _ J U
 ·rw[rG ad];simp only[ez];repeat' split
  all_goals omega
theorem aiV:∀a b d:T,eu a b≤0→eu b d≤0→eu a d≤0:=by
 intro a;induction a with
 |pair bD a2 Fa Fb=>
  intro b d J U;have aS:=FZ J;have bp:=FZ U;cases b<;>simp at aS;all_goals(cases d<;>simp at bp)
  rename_i cc b4 d1 d2;simp only[eu]at J U⊢;by_cases ak:eu bD cc=0
  ·obtain rfl:=(qF bD cc).1 ak;rw[if_pos ak]at J;by_cases aB:eu bD d1=0
   ·rw[if_pos aB]at U⊢;exact Fb b4 d2 J U
   ·rw[if_neg aB]at U⊢;exact U
  ·rw[if_neg ak]at J;by_cases aB:eu cc d1=0
   ·obtain rfl:=(qF cc d1).1 aB;rw[if_neg ak];exact J
   ·rw[if_neg aB]at U;have ao:=Fa cc d1 J U;by_cases bf:eu bD d1=0
    ·obtain rfl:=(qF bD d1).1 bf;have:=F0 bD cc;omega
    ·rw[if_neg bf];exact ao
 |nil=>exact fun b d=>F1 _ b d (by simp)
 |var n=>exact fun b d=>F1 _ b d (by simp)
 |sym n=>exact fun b d=>F1 _ b d (by simp)
 |num n=>exact fun b d=>F1 _ b d (by simp)
theorem Lf:jo eu:=⟨F0,aiV,qF⟩
end Go.Pv
namespace Go.Pv
open Go
section
variable {α:Type} {c:α→α→Int}
def jN(c:α→α→Int):List α→List α→Int
 |[],[]=>0
 |[],_::_=> -1
 |_::_,[]=>1
 |x::xs,y::ys=>if c x y=0 then jN c xs ys else c x y
theorem TN(h:jo c):∀a b:List α,jN c b a= -jN c a b
 |[],[]=>rfl
 |[],_::_=>rfl
 |_::_,[]=>rfl
 |x::xs,y::ys=>by
  simp only[jN];have J:=h.neg x y;by_cases e:c x y=0
  ·rw[if_pos e,if_pos (by omega),TN h xs ys]
  ·rw[if_neg e,if_neg (by omega),J]
theorem TP(h:jo c):∀a b:List α,jN c a b=0↔a=b
 |[],[]=>by simp[jN]
 |[],_::_=>by simp[jN]
 |_::_,[]=>by simp[jN]
 |x::xs,y::ys=>by
  simp only[jN,p6];by_cases e:c x y=0
  ·rw[if_pos e,TP h xs ys];simp[(h.zero x y).1 e]
  ·rw[if_neg e];exact⟨fun cr=>absurd cr e,fun cr=>absurd ((h.zero x y).2 cr.1) e⟩
theorem TO(h:jo c):∀a b d:List α,jN c a b≤0→jN c b d≤0→jN c a d≤0
 |[],_,[],_,_=>by simp[jN]
 |[],_,_::_,_,_=>by simp[jN]
 |_::_,[],_,J,_=>by simp[jN]at J
 |_::_,_::_,[],_,U=>by simp[jN]at U
 |x::xs,y::ys,z::c3,J,U=>by
  simp only[jN]at J U⊢;by_cases ak:c x y=0
  ·have:=(h.zero x y).1 ak;subst this;rw[if_pos ak]at J;by_cases aB:c x z=0
   ·rw[if_pos aB]at U⊢;exact TO h xs ys c3 J U
   ·rw[if_neg aB]at U⊢;exact U
  ·rw[if_neg ak]at J;have bC:c x y<0:=by omega
   by_cases aB:c y z=0
   ·have:=(h.zero y z).1 aB;subst this;rw[if_neg ak];omega
   ·rw[if_neg aB]at U;have:=h.ltr bC U;rw[if_neg (by omega)];omega
theorem af7(h:jo c):jo (jN c):=⟨TN h,TO h,TP h⟩
end
def xQ(x y:ar):Int:=if ez x.v y.v=0 then eu x.t y.t else ez x.v y.v
theorem aiS:jo xQ:=by
 refine⟨fun x y=>?_,fun x y z J U=>?_,fun x y=>?_⟩
 ·unfold xQ;have:=j6.neg x.v y.v;have:=Lf.neg x.t y.t;by_cases e:ez x.v y.v=0
  ·rw[if_pos e,if_pos (by omega)];omega
  ·rw[if_neg e,if_neg (by omega)];omega
 ·unfold xQ at J U⊢;by_cases ak:ez x.v y.v=0
  ·rw[if_pos ak]at J;rw[(j6.zero _ _).1 ak];by_cases aB:ez y.v z.v=0
   ·rw[if_pos aB]at U⊢;exact Lf.tr _ _ _ J U
   ·rw[if_neg aB]at U⊢;exact U
  ·rw[if_neg ak]at J;have bC:ez x.v y.v<0:=by omega
   by_cases aB:ez y.v z.v=0
   ·rw[←(j6.zero _ _).1 aB,if_neg ak];exact J
   ·rw[if_neg aB]at U;have:=j6.ltr bC U;rw[if_neg (by omega)];omega
 ·unfold xQ;by_cases e:ez x.v y.v=0
  ·rw[if_pos e,Lf.zero];have:=(j6.zero _ _).1 e;cases x;cases y;simp_all
  ·rw[if_neg e];exact⟨fun h=>absurd h e,fun h=>by rw[h]at e;exact absurd (j6.refl _) e⟩
def ey:List ar→List ar→Int:=jN xQ
theorem lC:jo ey:=af7 aiS
end Go.Pv
namespace Go.Pv
open Go
def T.ap(aO:Int→T):T→T
 | .var n=>aO n
 | .pair a b=>.pair (a.ap aO) (b.ap aO)
 |t=>t
theorem AV(f g:Int→T)(t:T):(t.ap f).ap g=t.ap fun v=>(f v).ap g:=by
 induction t with
 |pair a b dQ dR=>simp[T.ap,dQ,dR]
 |_=>simp[T.ap]
theorem tn{f g:Int→T}{t:T}(h:∀v,t.occ v=true→f v=g v):t.ap f=t.ap g:=by
 induction t with
 |var n=>exact h n (by simp[T.occ])
 |pair a b dQ dR=>simp only[T.ap];rw[dQ fun v aK=>h v (by simp[T.occ,aK]),dR fun v aK=>h v (by simp[T.occ,aK])]
 |_=>rfl
theorem Yd(t:T):t.ap .var=t:=by induction t<;>simp_all[T.ap]
theorem NB{f:Int→T}{t:T}(h:∀v,t.occ v=true→f v= .var v):t.ap f=t:=(tn h).trans (Yd t)
theorem Wx(f:Int→Option T)(t:T):t.sub f=t.ap fun v=>(f v).getD (.var v):=by
 induction t with
 |var n=>simp only[T.sub,T.ap];cases f n<;>rfl
 |pair a b dQ dR=>simp[T.sub,T.ap,dQ,dR]
 |_=>rfl
theorem Yc(aO:Int→T)(t:T):t.size≤(t.ap aO).size:=by
 induction t with
 |var n=>exact T.size_pos _
 |pair a b dQ dR=>simp only[T.ap,T.size];omega
 |_=>exact eR _
theorem zQ(aO:Int→T){v:Int}{t:T}(h:t.occ v=true):(aO v).size≤(t.ap aO).size∧(t.kind≠1→(aO v).size<(t.ap aO).size):=by
 induction t with
 |var n=>simp[T.occ]at h;subst h;simp[T.ap,T.kind]
 |pair a b dQ dR=>
  simp only[T.occ,mB]at h;simp only[T.ap,T.size];rcases h with h|h
  ·have:=(dQ h).1;exact⟨by omega,fun _=>by omega⟩
  ·have:=(dR h).1;exact⟨by omega,fun _=>by omega⟩
 |_=>simp[T.occ]at h
theorem CA{aO:Int→T}{v:Int}{t:T}:(t.ap aO).occ v=true↔∃w,t.occ w=true∧(aO w).occ v=true:=by
 induction t with
 |var n=>simp[T.ap,T.occ]
 |pair a b dQ dR=>
  simp only[T.ap,T.occ,mB,dQ,dR];constructor
  ·rintro(⟨w,J,U⟩|⟨w,J,U⟩)
   ·exact⟨w,.inl J,U⟩
   ·exact⟨w,.inr J,U⟩
  ·rintro⟨w,J|J,U⟩
   ·exact .inl ⟨w,J,U⟩
   ·exact .inr ⟨w,J,U⟩
 |_=>simp[T.ap,T.occ]
def cA(s:List ar)(v:Int):T:=(di s v).getD (.var v)
abbrev iv(s:List ar):Prop:=s.Pairwise fun x y=>x.v<y.v
def gJ(s:List ar)(aO:Int→T):Prop:= ∀b∈s,aO b.v=b.t.ap aO
structure fG (s:List ar):Prop where
 asc:iv s
 free:∀b∈s,∀w,b.t.occ w=true→di s w=none
 ori:∀b∈s,∀w,b.t= .var w→w<b.v
theorem ts(b:ar)(s:List ar)(v:Int):di (b::s) v=if b.v=v then some b.t else di s v:=by
 unfold di;by_cases h:b.v=v
 ·simp[h]
 ·have:(b.v==v)=false:=by simp[h]
  simp[this,h,List.find?_cons]
theorem jY{v:Int}{t:T}:∀{s:List ar},di s v=some t→(⟨v,t⟩:ar)∈s
 |[],h=>by simp[di]at h
 |b::s,h=>by
  rw[ts]at h;split at h
  ·rename_i e;cases h;subst e;simp
  ·exact ps _ (jY h)
theorem uQ{v:Int}:∀{s:List ar},di s v=none↔∀b∈s,b.v≠v
 |[]=>by simp[di]
 |b::s=>by
  rw[ts];by_cases h:b.v=v
  ·simp[h]
  ·simp[h,uQ (s:=s)]
theorem tq{b:ar}:∀{s:List ar},iv s→b∈s→di s b.v=some b.t
 |[],_,h=>by simp at h
 |c::s,bE,h=>by
  rw[ts];have mP:=mE.1 bE;rcases fU.1 h with rfl|h
  ·simp
  ·have:=mP.1 b h;rw[if_neg (by omega)];exact tq mP.2 h
theorem ND:∀{s ai:List ar},iv s→iv ai→(∀v,di s v=di ai v)→s=ai
 |[],[],_,_,_=>rfl
 |[],c::ai,_,_,h=>by have:=h c.v;rw[ts]at this;simp[di]at this
 |c::s,[],_,_,h=>by have:=h c.v;rw[ts]at this;simp[di]at this
 |b::s,c::ai,bE,ae,h=>by
  have fR:=mE.1 ae;have mP:=mE.1 bE;have J:(⟨b.v,b.t⟩:ar)∈c::ai:=jY (by rw[←h b.v,ts];simp);have U:(⟨c.v,c.t⟩:ar)∈b::s:=jY (by rw[h c.v,ts];simp);have RH:b=c:=by
   rcases fU.1 J with e|e
   ·exact e
   ·rcases fU.1 U with aB|aB
    ·exact aB.symm
    ·have a6:=fR.1 _ e;have bz:=mP.1 _ aB;simp only at a6 bz;omega
  subst RH;rw[ND mP.2 fR.2 fun v=>?_];have:=h v;rw[ts,ts]at this;by_cases e:b.v=v
  ·have kP:di s v=none:=uQ.2 fun x ab=>by have:=mP.1 x ab;omega
   have z2:di ai v=none:=uQ.2 fun x ab=>by have:=fR.1 x ab;omega
   rw[kP,z2]
  ·simpa[e]using this
theorem akR{s:List ar}(bE:iv s){aO:Int→T}:gJ s aO↔∀v,aO v=(cA s v).ap aO:=by
 constructor
 ·intro h v;unfold cA;cases e:di s v with
  |none=>rfl
  |some t=>exact h _ (jY e)
 ·intro h b ae;have:=h b.v;rw[cA,tq bE ae]at this;exact this
theorem Mh{s:List ar}{aO:Int→T}(h:gJ s aO)(t:T):t.ap aO=(t.ap (cA s)).ap aO:=by
 rw[AV];refine tn fun v _=>?_;unfold cA;cases e:di s v with
 |none=>rfl
 |some t=>exact h _ (jY e)
theorem aky{s:List ar}(ag:fG s){t:T}(h:∀w,t.occ w=true→di s w=none):t.ap (cA s)=t:=NB fun v aK=>by simp[cA,h v aK]
theorem x6{s:List ar}(ag:fG s):gJ s (cA s):=fun b ae=>by rw[aky ag (ag.free b ae),cA,tq ag.asc ae];rfl
theorem KN{s ai:List ar}(ag:fG s)(gi:fG ai)(h:∀aO,gJ ai aO→gJ s aO){v:Int}(aK:di ai v=none):di s v=none:=by
 cases e:di s v with
 |none=>rfl
 |some t=>
  have J:=h _ (x6 gi) _ (jY e);simp only[cA,aK,kB]at J;cases t with
  |var w=>
   have U:w<v:=ag.ori _ (jY e) w rfl;simp only[T.ap,cA]at J;cases bf:di ai w with
   |none=>rw[bf]at J;simp at J;omega
   |some u=>rw[bf]at J;simp only[j9]at J;subst J;have:=gi.ori _ (jY bf) v rfl;simp only at this;omega
  |_=>simp[T.ap]at J
theorem agK{s ai:List ar}(gi:fG ai)(h:∀aO,gJ ai aO→gJ s aO){v:Int}:(cA s v).size≤(cA ai v).size:=by
 have J:=h _ (x6 gi);unfold cA;cases e:di s v with
 |none=>exact T.size_pos _
 |some t=>have:=J _ (jY e);show t.size≤(cA ai v).size;simp only at this;rw[this];exact Yc _ _
theorem akU{s ai:List ar}(ag:fG s)(gi:fG ai)(h:∀aO,gJ s aO↔gJ ai aO):s=ai:=by
 refine ND ag.asc gi.asc fun v=>?_;have d1:∀w,di s w=none↔di ai w=none:=fun w=>⟨KN gi ag (fun aO=>(h aO).1),KN ag gi fun aO=>(h aO).2⟩;cases e:di s v with
 |none=>exact((d1 v).1 e).symm
 |some t=>
  cases fL:di ai v with
  |none=>rw[(d1 v).2 fL]at e;cases e
  |some dJ=>have J:=(h _).2 (x6 gi) _ (jY e);simp only[cA,fL,j9]at J;rw[J];exact e7 some (NB fun w hw=>by have:=(d1 w).1 (ag.free _ (jY e) w hw);simp[cA,this]).symm
def ho(s:List ar):Prop:=s.length≤400∧∀b∈s,b.t.size≤5000
theorem Ym{s:List ar}(h:iv s):(s.map (·.v)).Nodup:=by rw[List.nodup_iff_pairwise_ne,List.pairwise_map];exact h.imp fun h=>by omega
theorem QY{s ai:List ar}(ag:fG s)(gi:fG ai)(h:∀aO,gJ ai aO→gJ s aO)(aI:ho ai):ho s:=by
 have aQ:∀x∈s.map (·.v),x∈ai.map (·.v):=by
  intro x ab;obtain⟨b,ae,rfl⟩:=h8.1 ab;cases e:di ai b.v with
  |none=>have:=KN ag gi h e;rw[tq ag.asc ae]at this;cases this
  |some t=>exact h8.2 ⟨_,jY e,rfl⟩
 have au:=M9 (Ym ag.asc) aQ;simp only[List.length_map]at au;refine⟨jV au aI.1,fun b ae=>?_⟩;have J:=agK (s:=s) gi h (v:=b.v);rw[cA,tq ag.asc ae]at J;obtain⟨c,ay,e⟩:=h8.1 (aQ b.v (h8.2 ⟨b,ae,rfl⟩));have U:=aI.2 c ay;rw[cA,←e,tq gi.asc ay]at J;exact jV J U
def js(E:List (T×T))(aO:Int→T):Prop:= ∀e∈E,e.1.ap aO=e.2.ap aO
theorem Da(aO:Int→T):js [] aO:=fun _ h=>by simp at h
theorem qH{e:T×T}{E:List (T×T)}{aO:Int→T}:js (e::E) aO↔e.1.ap aO=e.2.ap aO∧js E aO:=by simp[js]
theorem C9{E wv:List (T×T)}{aO:Int→T}:js (E++wv) aO↔js E aO∧js wv aO:=by simp only[js,jU];exact⟨fun h=>⟨fun e he=>h e (.inl he),fun e he=>h e (.inr he)⟩,fun h e he=>he.elim (h.1 e) (h.2 e)⟩
def iz(s:List ar)(E:List (T×T)):Option (List ar)→Prop
 |some ai=>(fG ai∧ho ai)∧∀aO,gJ ai aO↔gJ s aO∧js E aO
 |none=> ∀ai,fG ai→(∀aO,gJ ai aO→gJ s aO∧js E aO)→¬ho ai
theorem X3{s:List ar}{E:List (T×T)}:∀{o o':Option (List ar)},iz s E o→iz s E o'→o=o'
 |none,none,_,_=>rfl
 |some s1,none,h,cr=>absurd h.1.2 (cr s1 h.1.1 fun aO=>(h.2 aO).1)
 |none,some s1,cr,h=>absurd h.1.2 (cr s1 h.1.1 fun aO=>(h.2 aO).1)
 |some s1,some s2,h,cr=>by rw[akU h.1.1 cr.1.1 fun aO=>(h.2 aO).trans (cr.2 aO).symm]
theorem AT{s s2:List ar}{E Nc:List (T×T)}(h:∀aO,(gJ s aO∧js E aO)↔(gJ s2 aO∧js Nc aO)):∀{o:Option (List ar)},iz s E o→iz s2 Nc o
 |none,aL=>fun ai J U=>aL ai J fun aO hh=>(h aO).2 (U aO hh)
 |some s1,aL=>⟨aL.1,fun aO=>(aL.2 aO).trans (h aO)⟩
theorem Nq{s s1:List ar}{E wv:List (T×T)}(h:iz s E (some s1)):∀{o:Option (List ar)},iz s1 wv o→iz s (E++wv) o
 |none,aL=>fun ai J U=>aL ai J fun aO hh=>⟨(h.2 aO).2 ⟨(U aO hh).1,(C9.1 (U aO hh).2).1⟩,(C9.1 (U aO hh).2).2⟩
 |some s2,aL=>⟨aL.1,fun aO=>by rw[aL.2 aO,h.2 aO,C9,and_assoc]⟩
theorem Ht{s:List ar}{E:List (T×T)}(wv:List (T×T))(h:iz s E none):iz s (E++wv) none:=fun ai J U=>h ai J fun aO hh=>⟨(U aO hh).1,(C9.1 (U aO hh).2).1⟩
theorem DF{s:List ar}{E:List (T×T)}(h:∀aO,gJ s aO→¬js E aO):iz s E none:=fun ai J U=>absurd (U _ (x6 J)).2 (h _ (U _ (x6 J)).1)
theorem Hu{s:List ar}(ag:fG s)(aI:ho s):iz s [] (some s):=⟨⟨ag,aI⟩,fun aO=>⟨fun h=>⟨h,Da aO⟩,fun h=>h.1⟩⟩
def one(v:Int)(x:T)(w:Int):T:=if w=v then x else .var w
def oq(b:ar):List ar→List ar
 |[]=>[b]
 |c::s=>if b.v<c.v then b::c::s else c::oq b s
def l8(s:List ar)(v:Int)(x:T):List ar:=oq ⟨v,x⟩ (s.map fun b=>⟨b.v,b.t.ap (one v x)⟩)
theorem KG{b x:ar}:∀{s:List ar},x∈oq b s↔x=b∨x∈s
 |[]=>by simp[oq]
 |c::s=>by
  simp only[oq];split
  ·simp
  ·simp only[fU,KG (s:=s)];constructor
   ·rintro(h|h|h)
    ·exact .inr (.inl h)
    ·exact .inl h
    ·exact .inr (.inr h)
   ·rintro(h|h|h)
    ·exact .inr (.inl h)
    ·exact .inl h
    ·exact .inr (.inr h)
theorem TM{b:ar}:∀{s:List ar},(oq b s).length=s.length+1
 |[]=>rfl
 |c::s=>by simp only[oq];split<;>simp[TM]
theorem NF{b:ar}:∀{s:List ar},iv s→(∀c∈s,c.v≠b.v)→iv (oq b s)
 |[],_,_=>by simp[oq]
 |c::s,bE,aw=>by
  have mP:=mE.1 bE;simp only[oq];split
  ·rename_i bC;refine mE.2 ⟨fun x ab=>?_,bE⟩;rcases fU.1 ab with rfl|ab
   ·exact bC
   ·have:=mP.1 x ab;omega
  ·rename_i tL;refine mE.2 ⟨fun x ab=>?_,NF mP.2 fun c ay=>aw c (by simp[ay])⟩;rcases KG.1 ab with rfl|ab
   ·have:=aw c (by simp);omega
   ·exact mP.1 x ab
theorem pV{s:List ar}{v:Int}{x:T}{b:ar}:b∈l8 s v x↔b=⟨v,x⟩∨ ∃c∈s,b=⟨c.v,c.t.ap (one v x)⟩:=by unfold l8;rw[KG,h8];refine or_congr Iff.rfl ⟨fun⟨c,J,U⟩=>⟨c,J,U.symm⟩,fun⟨c,J,U⟩=>⟨c,J,U.symm⟩⟩
theorem UK{v:Int}{x:T}{aO:Int→T}(h:aO v=x.ap aO)(t:T):(t.ap (one v x)).ap aO=t.ap aO:=by
 rw[AV];refine tn fun w _=>?_;unfold one;split
 ·rename_i e;subst e;exact h.symm
 ·rfl
theorem DI{s:List ar}{v w:Int}{x:T}:di (l8 s v x) w=none↔w≠v∧di s w=none:=by
 rw[uQ,uQ];constructor
 ·intro h;exact⟨fun e=>h ⟨v,x⟩ (pV.2 (.inl rfl)) e.symm,fun b ae=>h ⟨b.v,b.t.ap (one v x)⟩ (pV.2 (.inr ⟨b,ae,rfl⟩))⟩
 ·rintro⟨J,U⟩ b ae;rcases pV.1 ae with rfl|⟨c,ay,rfl⟩
  ·exact fun e=>J e.symm
  ·exact U c ay
theorem Mf{s:List ar}(ag:fG s){t:T}{w:Int}(h:(t.ap (cA s)).occ w=true):di s w=none:=by
 obtain⟨u,_,U⟩:=CA.1 h;unfold cA at U;cases e:di s u with
 |none=>rw[e]at U;simp[T.occ]at U;subst U;exact e
 |some t=>rw[e]at U;exact ag.free _ (jY e) w U
theorem akT{s:List ar}(ag:fG s){v:Int}{t:T}(aK:di s v=none)(av:(t.ap (cA s)).occ v=false)(sv:∀w,t.ap (cA s)= .var w→w<v):fG (l8 s v (t.ap (cA s))):=by
 have ab:∀w,(t.ap (cA s)).occ w=true→di (l8 s v (t.ap (cA s))) w=none:=fun w hw=>DI.2 ⟨fun e=>(by subst e;rw[av]at hw;cases hw),Mf ag hw⟩;refine⟨NF ?_ ?_,fun b ae w hw=>?_,fun b ae w hw=>?_⟩
 ·rw[iv,List.pairwise_map];exact ag.asc
 ·intro c ay;obtain⟨b,ae,rfl⟩:=h8.1 ay;exact uQ.1 aK b ae
 ·rcases pV.1 ae with rfl|⟨c,ay,rfl⟩
  ·exact ab w hw
  ·obtain⟨u,J,U⟩:=CA.1 hw;unfold one at U;split at U
   ·exact ab w U
   ·rename_i cF;simp[T.occ]at U;subst U;exact DI.2 ⟨cF,ag.free c ay _ J⟩
 ·rcases pV.1 ae with rfl|⟨c,ay,rfl⟩
  ·exact sv w hw
  ·simp only at hw⊢;cases e:c.t with
   |var u=>
    have:=ag.ori c ay u e;rw[e]at hw;simp only[T.ap,one]at hw;split at hw
    ·rename_i aB;subst aB;have:=sv w hw;omega
    ·cases hw;exact this
   |_=>rw[e]at hw;simp[T.ap]at hw
theorem Wm{s:List ar}{v:Int}{t:T}(aO:Int→T):gJ (l8 s v (t.ap (cA s))) aO↔gJ s aO∧js [(.var v,t)] aO:=by
 have ak:js [(.var v,t)] aO↔aO v=t.ap aO:=by simp[js,T.ap]
 rw[ak];constructor
 ·intro h;have bB:aO v=(t.ap (cA s)).ap aO:=h _ (pV.2 (.inl rfl));have J:gJ s aO:=fun b ae=>by have:=h _ (pV.2 (.inr ⟨b,ae,rfl⟩));simp only at this;rw[UK bB]at this;exact this
  exact⟨J,by rw[Mh J t];exact bB⟩
 ·rintro⟨J,U⟩ b ae;have bB:aO v=(t.ap (cA s)).ap aO:=by rw[←Mh J t];exact U
  rcases pV.1 ae with rfl|⟨c,ay,rfl⟩
  ·exact bB
  ·simp only;rw[UK bB];exact J c ay
open Classical in
theorem X0{s:List ar}(ag:fG s){v:Int}{t:T}(aK:di s v=none)(av:(t.ap (cA s)).occ v=false)(sv:∀w,t.ap (cA s)= .var w→w<v):iz s [(.var v,t)] (if ho (l8 s v (t.ap (cA s)))then some (l8 s v (t.ap (cA s)))else none):=by
 have J:=akT ag aK av sv;split
 ·rename_i aI;exact⟨⟨J,aI⟩,Wm⟩
 ·rename_i aI;exact fun ai U ao a8=>aI (QY J U (fun aO hh=>(Wm aO).2 (ao aO hh)) a8)
def hb(s:List ar):T→T
 | .var n=>cA s n
 |t=>t
def nt(s:List ar)(v:Int)(t:T):Option (List ar):=if(t.ap (cA s)).size≤5000∧(t.ap (cA s)).occ v=false∧s.length<400∧∀b∈s,(b.t.ap (one v (t.ap (cA s)))).size≤5000 then some (l8 s v (t.ap (cA s)))else none
def jS(rec:List ar→T→T→Option (Option (List ar)))(s:List ar):T→T→Option (Option (List ar))
 | .var i,.var j=>some (if i<j then nt s j (.var i)else if i=j then some s else nt s i (.var j))
 | .var i,y=>some (nt s i y)
 |x,.var j=>some (nt s j x)
 | .pair bD a2,.pair cc b4=>match rec s bD cc with
  |none=>none
  |some none=>some none
  |some (some s1)=>rec s1 a2 b4
 |x,y=>some (if x=y then some s else none)
def kx:Nat→List ar→T→T→Option (Option (List ar))
 |0,_,_,_=>none
 |n+1,s,a,b=>jS (kx n) s (hb s a) (hb s b)
theorem alm{rec LO:List ar→T→T→Option (Option (List ar))}(h:∀s a b o,rec s a b=some o→LO s a b=some o){s:List ar}{x y:T}{o:Option (List ar)}(he:jS rec s x y=some o):jS LO s x y=some o:=by
 cases x<;>cases y<;>simp only[jS]at he⊢ <;>try exact he
 rename_i bD a2 cc b4;cases e:rec s bD cc with
 |none=>rw[e]at he;cases he
 |some gy=>
  rw[e]at he;rw[h _ _ _ _ e];cases gy with
  |none=>exact he
  |some s1=>exact h _ _ _ _ he
theorem Dg:∀{n m:Nat} {s:List ar} {a b:T} {o:Option (List ar)},n≤m→kx n s a b=some o→kx m s a b=some o
 |0,_,_,_,_,_,_,h=>by simp[kx]at h
 |n+1,0,_,_,_,_,hm,_=>by omega
 |n+1,m+1,s,a,b,o,hm,h=>by simp only[kx]at h⊢;exact alm (fun s a b o h=>Dg (by omega) h) h
theorem IT{s:List ar}{v:Int}{x:T}:ho (l8 s v x)↔(x.size≤5000∧s.length<400∧∀b∈s,(b.t.ap (one v x)).size≤5000):=by
 have au:(l8 s v x).length=s.length+1:=by simp[l8,TM]
 unfold ho;rw[au];constructor
 ·rintro⟨J,U⟩;exact⟨U _ (pV.2 (.inl rfl)),by omega,fun b ae=>U _ (pV.2 (.inr ⟨b,ae,rfl⟩))⟩
 ·rintro⟨J,U,ao⟩;refine⟨by omega,fun b ae=>?_⟩;rcases pV.1 ae with rfl|⟨c,ay,rfl⟩
  ·exact J
  ·exact ao c ay
theorem X1{s:List ar}(ag:fG s){v:Int}{t:T}(aK:di s v=none)(cF:t.ap (cA s)≠ .var v)(sv:∀w,t.ap (cA s)= .var w→w<v):iz s [(.var v,t)] (nt s v t):=by
 unfold nt;cases av:(t.ap (cA s)).occ v with
 |true=>
  rw[if_neg (by simp)];refine DF fun aO J U=>?_;have ao:=(qH.1 U).1;simp only[T.ap]at ao;rw[Mh J t]at ao;have ad:(t.ap (cA s)).kind≠1:=by
   intro ad;cases e:t.ap (cA s)with
   |var w=>rw[e]at av;simp[T.occ]at av;subst av;exact cF e
   |_=>rw[e]at ad;simp[T.kind]at ad
  have:=(zQ aO av).2 ad;rw[←ao]at this;omega
 |false=>
  have J:=X0 ag aK av sv;by_cases aI:ho (l8 s v (t.ap (cA s)))
  ·rw[if_pos aI]at J;rw[if_pos ⟨(IT.1 aI).1,rfl,(IT.1 aI).2⟩];exact J
  ·rw[if_neg aI]at J;rw[if_neg fun h=>aI (IT.2 ⟨h.1,h.2.2⟩)];exact J
theorem Xs{s:List ar}(ag:fG s){t:T}{i:Int}(h:hb s t= .var i):di s i=none:=by
 cases t with
 |var n=>
  simp only[hb,cA]at h;cases e:di s n with
  |none=>rw[e]at h;simp at h;subst h;exact e
  |some u=>rw[e]at h;simp at h;subst h;exact ag.free _ (jY e) i (by simp[T.occ])
 |_=>simp[hb]at h
theorem MZ{s:List ar}{aO:Int→T}(h:gJ s aO)(t:T):(hb s t).ap aO=t.ap aO:=by
 cases t with
 |var n=>
  simp only[hb,T.ap,cA];cases e:di s n with
  |none=>rfl
  |some u=>exact(h _ (jY e)).symm
 |_=>rfl
theorem Xu{s:List ar}(ag:fG s)(t:T):(hb s t).ap (cA s)=t.ap (cA s):=MZ (x6 ag) t
def pM(V:List Int)(t:T):Prop:= ∀w,t.occ w=true→w∈V
def xr(V:List Int)(s:List ar):Prop:= ∀b∈s,b.v∈V∧pM V b.t
def yF(V:List Int)(s:List ar):Nat:=(V.filter fun v=>(di s v).isNone).length
theorem QV{α:Type}{p q:α→Bool}{v:α}:∀{V:List α},(∀x∈V,q x=true→p x=true)→v∈V→p v=true→q v=false→(V.filter q).length<(V.filter p).length
 |[],_,h,_,_=>by simp at h
 |x::V,h,aK,bI,bn=>by
  have hle:∀W:List α,(∀x∈W,q x=true→p x=true)→(W.filter q).length≤(W.filter p).length:=by
   intro W;induction W with
   |nil=>intro _;simp
   |cons y W bS=>intro Bv;have:=bS fun x ab=>Bv x (by simp[ab]);have aG:=Bv y (by simp);simp only[List.filter_cons];cases e:q y<;>cases aB:p y<;>simp_all<;>omega
  simp only[List.filter_cons];rcases fU.1 aK with rfl|aK
  ·have:=hle V fun x ab=>h x (by simp[ab]);simp[bI,bn];omega
  ·have:=QV (fun x ab=>h x (ps _ ab)) aK bI bn;have ab:=h x (by simp);cases e:q x<;>cases aB:p x<;>simp_all<;>omega
theorem Zl{V:List Int}{s:List ar}{v:Int}{x:T}(aK:v∈V)(aw:di s v=none):yF V (l8 s v x)<yF V s:=by
 unfold yF;refine QV (v:=v) (fun w _ h=>?_) aK (by simp[aw]) ?_
 ·rw[Option.isNone_iff_eq_none,DI]at h;simp[h.2]
 ·cases e:di (l8 s v x) v with
  |none=>exact absurd rfl (DI.1 e).1
  |some _=>rfl
theorem SP{V:List Int}{s:List ar}(h:xr V s){t:T}(aN:pM V t):pM V (t.ap (cA s)):=fun w hw=>by
 obtain⟨u,J,U⟩:=CA.1 hw;unfold cA at U;cases e:di s u with
 |none=>rw[e]at U;simp[T.occ]at U;subst U;exact aN _ J
 |some x=>rw[e]at U;exact(h _ (jY e)).2 w U
theorem afm{V:List Int}{s:List ar}(h:xr V s){v:Int}{x:T}(aK:v∈V)(ab:pM V x):xr V (l8 s v x):=fun b ae=>by
 rcases pV.1 ae with rfl|⟨c,ay,rfl⟩
 ·exact⟨aK,ab⟩
 ·refine⟨(h c ay).1,fun w hw=>?_⟩;obtain⟨u,J,U⟩:=CA.1 hw;unfold one at U;split at U
  ·exact ab w U
  ·simp[T.occ]at U;subst U;exact(h c ay).2 _ J
theorem SQ{V:List Int}{s:List ar}(h:xr V s){t:T}(aN:pM V t):pM V (hb s t):=by
 cases t with
 |var n=>have:=SP h aN;simpa[hb,T.ap]using this
 |_=>exact aN
def AS(V:List Int)(s:List ar)(a b:T)(o:Option (List ar)):Prop:=iz s [(a,b)] o∧∀ai,o=some ai→xr V ai∧(ai=s∨yF V ai<yF V s)
theorem Dh{V:List Int}{s:List ar}(ag:fG s)(j1:xr V s){v:Int}{t a b:T}(aK:v∈V)(aN:pM V t)(aw:di s v=none)(cF:t.ap (cA s)≠ .var v)(sv:∀w,t.ap (cA s)= .var w→w<v)(ay:∀aO,gJ s aO→(aO v=t.ap aO↔a.ap aO=b.ap aO)):AS V s a b (nt s v t):=by
 refine⟨AT (fun aO=>?_) (X1 ag aw cF sv),fun ai h=>?_⟩
 ·refine and_congr_right fun h=>?_;rw[qH,qH];simp only[T.ap,ay aO h]
 ·unfold nt at h;split at h
  ·cases h;exact⟨afm j1 aK (SP j1 aN),.inr (Zl aK aw)⟩
  ·cases h
theorem Ap{s:List ar}{i:Int}(h:di s i=none):cA s i= .var i:=by simp[cA,h]
theorem WS(V:List Int)(k:Nat):∀(m:Nat) (s:List ar) (a b:T),fG s→ho s→xr V s→pM V a→pM V b→yF V s=k→(a.ap (cA s)).size+(b.ap (cA s)).size=m→
  ∃n o,kx n s a b=some o∧AS V s a b o:=by
 induction k using Nat.strongRecOn with
 |ind k J3=>
 intro m;induction m using Nat.strongRecOn with
 |ind m zu=>
 intro s a b ag aI j1 bE ae ad hm;have ab:=SQ j1 bE;have aG:=SQ j1 ae;have Mq:=Xu ag a;have Mr:=Xu ag b;have tp:=fun aO (h:gJ s aO)=>MZ h a;have nq:=fun aO (h:gJ s aO)=>MZ h b;have qn:=fun i=>Xs ag (t:=a) (i:=i);have IY:=fun i=>Xs ag (t:=b) (i:=i);have key:∀(rec:List ar→T→T→Option (Option (List ar))) (o:Option (List ar)),jS rec s (hb s a) (hb s b)=some o→(∀bD a2 cc b4,hb s a= .pair bD a2→hb s b= .pair cc b4→AS V s a b o)→AS V s a b o:=by
  intro rec o he bI;cases ex:hb s a with
  |var i=>
   have En:=qn i ex;have qf:=fun aO h=>(tp aO h).symm.trans (by rw[ex]);cases hT:hb s b with
   |var j=>
    have wT:=IY j hT;have oV:=fun aO h=>(nq aO h).symm.trans (by rw[hT]);rw[ex,hT]at he;simp only[jS]at he;have hi:i∈V:=by rw[ex]at ab;exact ab i (by simp[T.occ])
    have af:j∈V:=by rw[hT]at aG;exact aG j (by simp[T.occ])
    rcases Int.lt_trichotomy i j with h|h|h
    ·rw[if_pos h]at he;cases he;refine Dh ag j1 af (by rw[ex]at ab;exact ab) wT (by simp[T.ap,Ap En];omega) (fun w hw=>by simp[T.ap,Ap En]at hw;omega) fun aO hh=>?_;rw[qf aO hh,oV aO hh];simp only[T.ap];exact⟨Eq.symm,Eq.symm⟩
    ·subst h;rw[if_neg (by omega),if_pos rfl]at he;cases he;refine⟨⟨⟨ag,aI⟩,fun aO=>⟨fun h=>⟨h,qH.2 ⟨?_,Da aO⟩⟩,fun h=>h.1⟩⟩,fun ai e=>by cases e;exact⟨j1,.inl rfl⟩⟩;simp only;rw[qf aO h,oV aO h]
    ·rw[if_neg (by omega),if_neg (by omega)]at he;cases he;refine Dh ag j1 hi (by rw[hT]at aG;exact aG) En (by simp[T.ap,Ap wT];omega) (fun w hw=>by simp[T.ap,Ap wT]at hw;omega) fun aO hh=>?_;rw[qf aO hh,oV aO hh];simp only[T.ap]
   |_=>have oV:=fun aO h=>(nq aO h).symm.trans (by rw[hT]);rw[ex,hT]at he;simp only[jS]at he;cases he;refine Dh ag j1 (by rw[ex]at ab;exact ab i (by simp[T.occ])) (by rw[hT]at aG;exact aG) En (by simp[T.ap]) (fun w hw=>by simp[T.ap]at hw) fun aO hh=>?_;rw[qf aO hh,oV aO hh];simp only[T.ap]
  |pair bD a2=>
   cases hT:hb s b with
   |pair cc b4=>exact bI bD a2 cc b4 ex hT
   |var j=>have wT:=IY j hT;have qf:=fun aO h=>(tp aO h).symm.trans (by rw[ex]);have oV:=fun aO h=>(nq aO h).symm.trans (by rw[hT]);rw[ex,hT]at he;simp only[jS]at he;cases he;refine Dh ag j1 (by rw[hT]at aG;exact aG j (by simp[T.occ])) (by rw[ex]at ab;exact ab) wT (by simp[T.ap]) (fun w hw=>by simp[T.ap]at hw) fun aO hh=>?_;rw[qf aO hh,oV aO hh];simp only[T.ap];exact⟨Eq.symm,Eq.symm⟩
   |_=>have qf:=fun aO h=>(tp aO h).symm.trans (by rw[ex]);have oV:=fun aO h=>(nq aO h).symm.trans (by rw[hT]);rw[ex,hT]at he;simp only[jS]at he;simp at he;subst he;refine⟨DF fun aO J U=>?_,fun ai e=>by cases e⟩;have:=(qH.1 U).1;simp only at this;rw[qf aO J,oV aO J]at this;simp[T.ap]at this
  |_=>
   have qf:=fun aO h=>(tp aO h).symm.trans (by rw[ex]);cases hT:hb s b with
   |var j=>have wT:=IY j hT;have oV:=fun aO h=>(nq aO h).symm.trans (by rw[hT]);rw[ex,hT]at he;simp only[jS]at he;cases he;refine Dh ag j1 (by rw[hT]at aG;exact aG j (by simp[T.occ])) (by rw[ex]at ab;exact ab) wT (by simp[T.ap]) (fun w hw=>by simp[T.ap]at hw) fun aO hh=>?_;rw[qf aO hh,oV aO hh];simp only[T.ap];exact⟨Eq.symm,Eq.symm⟩
   |_=>
    have oV:=fun aO h=>(nq aO h).symm.trans (by rw[hT]);rw[ex,hT]at he;simp only[jS,dG]at he;split at he
    ·rename_i e;subst he;refine⟨⟨⟨ag,aI⟩,fun aO=>⟨fun h=>⟨h,qH.2 ⟨?_,Da aO⟩⟩,fun h=>h.1⟩⟩,fun ai e=>by cases e;exact⟨j1,.inl rfl⟩⟩;simp only;rw[qf aO h,oV aO h];try rw[e]
    ·rename_i e;subst he;refine⟨DF fun aO J U=>?_,fun ai e=>by cases e⟩;have:=(qH.1 U).1;simp only at this;rw[qf aO J,oV aO J]at this;simp[T.ap]at this e;try exact e this
 by_cases EZ:∃bD a2 cc b4,hb s a= .pair bD a2∧hb s b= .pair cc b4
 ·obtain⟨bD,a2,cc,b4,ex,hT⟩:=EZ;have ef:(bD.ap (cA s)).size+(cc.ap (cA s)).size<m∧(a2.ap (cA s)).size+(b4.ap (cA s)).size<m:=by rw[ex]at Mq;rw[hT]at Mr;simp only[T.ap]at Mq Mr;rw[←hm,←Mq,←Mr];simp only[T.size];omega
  have kW:pM V bD:=fun w hw=>by rw[ex]at ab;exact ab w (by simp[T.occ,hw])
  have pI:pM V a2:=fun w hw=>by rw[ex]at ab;exact ab w (by simp[T.occ,hw])
  have ll:pM V cc:=fun w hw=>by rw[hT]at aG;exact aG w (by simp[T.occ,hw])
  have o7:pM V b4:=fun w hw=>by rw[hT]at aG;exact aG w (by simp[T.occ,hw])
  have RO:∀aO,(gJ s aO∧js ([(bD,cc)]++[(a2,b4)]) aO)↔(gJ s aO∧js [(a,b)] aO):=fun aO=>and_congr_right fun h=>by simp only[List.singleton_append,qH,Da,and_true];rw[←tp aO h,←nq aO h,ex,hT];simp[T.ap]
  obtain⟨hV,gy,ak,cN⟩:=zu _ ef.1 s bD cc ag aI j1 kW ll ad rfl;cases gy with
  |none=>refine⟨hV+1,none,?_,AT RO (Ht _ cN.1),fun ai e=>by cases e⟩;simp only[kx,ex,hT,jS,ak]
  |some s1=>
   obtain⟨v1,v2⟩:=cN.2 s1 rfl;have BW:∃fZ gv,kx fZ s1 a2 b4=some gv∧AS V s1 a2 b4 gv:=by
    rcases v2 with rfl|v2
    ·exact zu _ ef.2 _ a2 b4 ag aI j1 pI o7 ad rfl
    ·exact J3 _ (by omega) _ s1 a2 b4 cN.1.1.1 cN.1.1.2 v1 pI o7 rfl rfl
   obtain⟨fZ,gv,aB,dq⟩:=BW;refine⟨max hV fZ+1,gv,?_,AT RO (Nq cN.1 dq.1),fun ai e=>?_⟩
   ·simp only[kx,ex,hT,jS,Dg (Nat.le_max_left hV fZ) ak];exact Dg (Nat.le_max_right hV fZ) aB
   ·obtain⟨eI,du⟩:=dq.2 ai e;refine⟨eI,?_⟩;rcases v2 with rfl|v2
    ·exact du
    ·rcases du with rfl|du
     ·exact .inr v2
     ·exact .inr (by omega)
 ·have Sm:∀bD a2 cc b4,hb s a= .pair bD a2→hb s b= .pair cc b4→eo:=fun bD a2 cc b4 J U=>EZ ⟨bD,a2,cc,b4,J,U⟩;have:∃o,jS (kx 0) s (hb s a) (hb s b)=some o:=by cases ex:hb s a<;>cases hT:hb s b<;>simp only[jS]<;>first|exact⟨_,rfl⟩|exact(Sm _ _ _ _ ex hT).elim
  obtain⟨o,av⟩:=this;exact⟨1,o,av,key _ o av fun bD a2 cc b4 J U=>(Sm bD a2 cc b4 J U).elim⟩
def c1{α:Type}(k:Int):List (Int×α)→Option α
 |[]=>none
 |(i,v)::r=>if k=i then some v else c1 k r
def eU{α:Type}(k:Int)(v:α):List (Int×α)→List (Int×α)
 |[]=>[(k,v)]
 |(i,w)::r=>if k=i then(i,v)::r else(i,w)::eU k v r
def cp{α:Type}(m:List (Int×α)):List Int:=m.map (·.1)
theorem ni{α:Type}(k:Int)(v:α)(j:Int):∀m:List (Int×α),c1 j (eU k v m)=if j=k then some v else c1 j m
 |[]=>by simp only[eU,c1]
 |(i,w)::r=>by
  simp only[eU];by_cases h:k=i
  ·subst h;by_cases U:j=k<;>simp[c1,U]
  ·by_cases U:j=i
   ·subst U;have:¬j=k:=fun e=>h e.symm;simp[c1,h,this]
   ·simp[c1,h,U,ni k v j r]
theorem GV{α:Type}{k:Int}:∀{m:List (Int×α)},(c1 k m).isSome=true↔k∈cp m
 |[]=>by simp[c1,cp]
 |(i,w)::r=>by
  simp only[c1,cp,gG,fU];by_cases h:k=i
  ·simp[h]
  ·simp only[h,if_false,false_or];exact GV
theorem alg{α:Type}{k:Int}{m:List (Int×α)}:c1 k m=none↔k∉cp m:=by rw[←GV];cases c1 k m<;>simp
theorem Cg{α:Type}{k:Int}{v:α}:∀{m:List (Int×α)},k∈cp m→cp (eU k v m)=cp m
 |[],h=>by simp[cp]at h
 |(i,w)::r,h=>by
  simp only[eU];by_cases e:k=i
  ·simp[e,cp]
  ·rw[if_neg e];have cr:k∈cp r:=by simpa[cp,e]using h
   have:=Cg (v:=v) cr;simp only[cp]at this⊢;simp[this]
theorem Tm{α:Type}{k:Int}{v:α}:∀{m:List (Int×α)},k∉cp m→cp (eU k v m)=cp m++[k]
 |[],h=>by simp[cp,eU]
 |(i,w)::r,h=>by have e:¬k=i:=fun e=>h (by simp[cp,e]);have cr:k∉cp r:=fun ad=>h (by simp[cp]at ad⊢;exact .inr ad);have:=Tm (v:=v) cr;simp only[eU,if_neg e];simp only[cp]at this⊢;simp[this]
structure bs where
 up:List (Int×Int)
 shape:List (Int×T)
 shaped:List (Int×Bool)
 color:List (Int×Int)
 size:List (Int×Int)
 full:List (Int×T)
def bs.shd(c:bs)(x:Int):Bool:=(c1 x c.shaped).getD false
def bs.shp(c:bs)(x:Int):T:=(c1 x c.shape).getD .nil
def bs.col(c:bs)(x:Int):Int:=(c1 x c.color).getD 0
def bs.sz(c:bs)(x:Int):Int:=(c1 x c.size).getD 0
def iM(m:List (Int×Int))(v:Int):Int:=(c1 v m).getD 0
def vX:Nat→List (Int×Int)→Int→Option (Int×List (Int×Int))
 |0,_,_=>none
 |n+1,m,v=>if iM m v=v then some (v,m)else vX n (eU v (iM m (iM m v)) m) (iM (eU v (iM m (iM m v)) m) v)
def yr(v:Int)(m:List (Int×Int)):List (Int×Int):=if(c1 v m).isSome then m else eU v v m
def rt(c:bs)(v:Int):Option (Int×bs):=(vX (v.toNat+1) (yr v c.up) v).map fun p=>(p.1,{c with up:=p.2})
def T.foldO{α:Type}(f:Int→α→Option α):T→α→Option α
 | .var n,a=>f n a
 | .pair x y,a=>(x.foldO f a).bind (y.foldO f)
 |_,a=>some a
def T.mapO{α:Type}(f:Int→α→Option (T×α)):T→α→Option (T×α)
 | .var n,a=>f n a
 | .pair x y,a=>(x.mapO f a).bind fun p=>(y.mapO f p.2).map fun q=>(.pair p.1 q.1,q.2)
 |t,a=>some (t,a)
def T.sizeO{α:Type}(f:Int→α→Option (Int×α)):T→α→Option (Int×α)
 | .var n,a=>(f n a).map fun p=>(if 5001<p.1 then 5001 else p.1,p.2)
 | .pair x y,a=>(x.sizeO f a).bind fun p=>if 5000<p.1 then some p else(y.sizeO f p.2).map fun q=>(if 5001<1+p.1+q.1 then 5001 else 1+p.1+q.1,q.2)
 |_,a=>some (1,a)
def zG(t:T)(c:bs):Option bs:=t.foldO (fun v c=>(rt c v).map (·.2)) c
structure tg where
 c:bs
 seen:List (Int×Bool)
 found:Bool
def vW(rec:T→bs→List (Int×Bool)→Option tg)(x:Int)(v:Int)(a:tg):Option tg:=
 (rt a.c v).bind fun p=>if a.found=true∨p.1=x then some ⟨p.2,a.seen,true⟩
  else if(c1 p.1 a.seen).getD false=false∧p.2.shd p.1=true then rec (p.2.shp p.1) p.2 (eU p.1 true a.seen)
  else some ⟨p.2,a.seen,a.found⟩
def pj:Nat→Int→T→bs→List (Int×Bool)→Option tg
 |0,_,_,_,_=>none
 |n+1,x,t,c,seen=>t.foldO (vW (pj n x) x) ⟨c,seen,false⟩
def bs.know(c:bs)(x:Int)(t:T):bs:={c with shape:=eU x t c.shape,shaped:=eU x true c.shaped}
def tZ(n:Nat)(x:Int)(t:T)(c:bs):Option (Bool×bs):=(pj n x t (c.know x t) []).map fun a=>(!a.found,a.c)
def bs.join(c:bs)(x y:Int):bs:={c with up:=eU y x c.up}
def qW(rec:T→T→bs→Option (Bool×bs))(n:Nat)(x y:Int)(c:bs):Option (Bool×bs):=
 if c.shd y=false then
  (if c.shd x=false then some (true,c)else(pj n x (c.shp x) c []).map fun a=>(!a.found,a.c))
 else if c.shd x=false then tZ n x (c.shp y) c
 else(pj n x (c.shp y) c []).bind fun a=>if a.found=true then some (false,a.c)else
  (pj n x (a.c.shp x) a.c []).bind fun b=>if b.found=true then some (false,b.c)else rec (b.c.shp x) (c.shp y) b.c
def gq:Nat→T→T→bs→Option (Bool×bs)
 |0,_,_,_=>none
 |n+1,.var i,.var j,c=>(rt c i).bind fun p=>(rt p.2 j).bind fun q=>if p.1=q.1 then some (true,q.2)else if q.1<p.1 then qW (gq n) n q.1 p.1 (q.2.join q.1 p.1)else qW (gq n) n p.1 q.1 (q.2.join p.1 q.1)
 |n+1,.var i,b,c=>(rt c i).bind fun p=>if p.2.shd p.1=false then tZ n p.1 b p.2 else gq n (p.2.shp p.1) b p.2
 |n+1,a,.var j,c=>gq n (.var j) a c
 |n+1,.pair bD a2,.pair cc b4,c=>(gq n bD cc c).bind fun p=>if p.1=true then gq n a2 b4 p.2 else some (false,p.2)
 |_+1,a,b,c=>some (decide (a=b),c)
structure jr (m:List (Int×Int)) (ρ:Int→Int):Prop where
 up:∀v u,c1 v m=some u→(0≤u∧u≤v∧u∈cp m)∧ρ u=ρ v∧(ρ v=v↔u=v)
 no:∀v,v∉cp m→ρ v=v
theorem jr.get{m:List (Int×Int)}{ρ:Int→Int}(h:jr m ρ){v:Int}(aK:v∈cp m):∃u,c1 v m=some u∧iM m v=u:=by have:=GV.2 aK;obtain⟨u,hu⟩:=fD.1 this;exact⟨u,hu,by simp[iM,hu]⟩
theorem jr.root{m:List (Int×Int)}{ρ:Int→Int}(h:jr m ρ):∀(n:Nat) (v:Int),v.toNat≤n→(ρ v≤v∧ρ (ρ v)=ρ v∧(v∈cp m→ρ v∈cp m∧0≤ρ v)):=by
 intro n;induction n using Nat.strongRecOn with
 |ind n bS=>
 intro v aw;by_cases aK:v∈cp m
 ·obtain⟨u,J,_⟩:=h.get aK;obtain⟨⟨bD,a2,a3⟩,a4,a5⟩:=h.up v u J;by_cases e:u=v
  ·have:=a5.2 e;subst e;rw[this];exact⟨by omega,this,fun _=>⟨a3,bD⟩⟩
  ·obtain⟨cc,b4,fH⟩:=bS (u.toNat) (by omega) u (by omega);rw[←a4];exact⟨by omega,b4,fun _=>fH a3⟩
 ·have:=h.no v aK;rw[this];exact⟨by omega,this,fun h=>absurd h aK⟩
theorem jr.le{m:List (Int×Int)}{ρ:Int→Int}(h:jr m ρ)(v:Int):ρ v≤v:=(h.root v.toNat v (eR _)).1
theorem jr.idem{m:List (Int×Int)}{ρ:Int→Int}(h:jr m ρ)(v:Int):ρ (ρ v)=ρ v:=(h.root v.toNat v (eR _)).2.1
theorem jr.mem{m:List (Int×Int)}{ρ:Int→Int}(h:jr m ρ){v:Int}(aK:v∈cp m):ρ v∈cp m∧0≤ρ v:=(h.root v.toNat v (eR _)).2.2 aK
theorem Wc{ρ:Int→Int}:∀(n:Nat) (m:List (Int×Int)) (v:Int),jr m ρ→v∈cp m→v.toNat<n→∃hk,vX n m v=some (ρ v,hk)∧jr hk ρ∧cp hk=cp m
 |0,_,_,_,_,aw=>by omega
 |n+1,m,v,h,aK,aw=>by
  obtain⟨u,J,U⟩:=h.get aK;obtain⟨⟨bD,a2,a3⟩,a4,a5⟩:=h.up v u J;simp only[vX,U];by_cases e:u=v
  ·rw[if_pos e];have:=a5.2 e;exact⟨m,by rw[this],h,rfl⟩
  ·rw[if_neg e];obtain⟨x,g1,g2⟩:=h.get a3;obtain⟨⟨cc,b4,fH⟩,nX,NJ⟩:=h.up u x g1;rw[g2];have ad:=Cg (v:=x) aK;have lU:jr (eU v x m) ρ:=by
    refine⟨fun w y hw=>?_,fun w hw=>h.no w (by rw[ad]at hw;exact hw)⟩;rw[ni]at hw;rw[ad];by_cases ew:w=v
    ·subst ew;rw[if_pos rfl]at hw;cases hw;refine⟨⟨cc,by omega,fH⟩,by rw[nX,a4],⟨fun aL=>absurd (a5.1 aL) e,fun ab=>?_⟩⟩;have:u=w:=by omega
     exact absurd this e
    ·rw[if_neg ew]at hw;exact h.up w y hw
   have ae2:iM (eU v x m) v=x:=by simp[iM,ni]
   rw[ae2];obtain⟨hk,bH,cj,da⟩:=Wc n (eU v x m) x lU (by rw[ad];exact fH) (by omega);exact⟨hk,by rw[bH,nX,a4],cj,by rw[da,ad]⟩
structure iy (ρ:Int→Int) (c cl:bs):Prop where
 ru:jr cl.up ρ
 keys:cp cl.up=cp c.up
 eq:cl={c with up:=cl.up}
theorem iy.refl{ρ:Int→Int}{c:bs}(h:jr c.up ρ):iy ρ c c:=⟨h,rfl,rfl⟩
theorem iy.trans{ρ:Int→Int}{a b c:bs}(h:iy ρ a b)(k:iy ρ b c):iy ρ a c:=⟨k.ru,k.keys.trans h.keys,by rw[k.eq,h.eq]⟩
theorem iy.shd{ρ:Int→Int}{c cl:bs}(h:iy ρ c cl)(x:Int):cl.shd x=c.shd x:=by rw[h.eq];rfl
theorem iy.shp{ρ:Int→Int}{c cl:bs}(h:iy ρ c cl)(x:Int):cl.shp x=c.shp x:=by rw[h.eq];rfl
theorem sU{ρ:Int→Int}{c:bs}{v:Int}(h:jr c.up ρ)(aK:v∈cp c.up):∃cl,rt c v=some (ρ v,cl)∧iy ρ c cl:=by
 have bE:yr v c.up=c.up:=by simp[yr,GV.2 aK]
 obtain⟨hk,J,U,ao⟩:=Wc (v.toNat+1) c.up v h aK (by omega);exact⟨{c with up:=hk},by simp[rt,bE,J],⟨U,ao,rfl⟩⟩
theorem akm{ρ:Int→Int}{c:bs}{v:Int}(h:jr c.up ρ)(bB:0≤v)(aK:v∉cp c.up):rt c v=some (v,{c with up:=eU v v c.up})∧jr (eU v v c.up) ρ∧cp (eU v v c.up)=cp c.up++[v]:=by
 have aw:=alg.2 aK;have ad:=Tm (v:=v) aK;refine⟨?_,⟨fun w u hw=>?_,fun w hw=>h.no w fun hm=>hw (by rw[ad];simp[hm])⟩,ad⟩
 ·simp[rt,yr,aw,vX,iM,ni]
 ·rw[ni]at hw;rw[ad];by_cases e:w=v
  ·subst e;rw[if_pos rfl]at hw;cases hw;exact⟨⟨bB,by omega,by simp⟩,rfl,⟨fun _=>rfl,fun _=>h.no _ aK⟩⟩
  ·rw[if_neg e]at hw;obtain⟨⟨bD,a2,a3⟩,a4⟩:=h.up w u hw;exact⟨⟨bD,a2,by simp[a3]⟩,a4⟩
def bs.ph(c:bs)(x:Int):Option T:=if c.shd x then some (c.shp x)else none
theorem iy.ph{ρ:Int→Int}{c cl:bs}(h:iy ρ c cl):cl.ph=c.ph:=by funext x;simp only[bs.ph,h.shd,h.shp]
def jX(ph:Int→Option T)(ρ:Int→Int)(aO:Int→T):Prop:=(∀v,aO v=aO (ρ v))∧∀x t,ρ x=x→ph x=some t→aO x=t.ap aO
def iO(ph:Int→Option T)(ρ:Int→Int)(z u:Int):Prop:=ρ z=z∧∃t w,ph z=some t∧t.occ w=true∧ρ w=u
inductive mG (E:Int→Int→Prop):Int→Int→Prop
 |refl (a:Int):mG E a a
 |step {a b c:Int}:E a b→mG E b c→mG E a c
def nW(V:List Int)(ph:Int→Option T):Prop:= ∀x t,ph x=some t→t.kind≠1∧(∀w,t.occ w=true→w∈V)∧x∈V
def G1(V:List Int)(ph:Int→Option T)(seen:List (Int×Bool)):Nat:=(V.filter fun v=>(ph v).isSome&& !((c1 v seen).getD false)).length
def mm(seen:List (Int×Bool))(z:Int):Prop:=(c1 z seen).getD false=true
structure XU (V:List Int) (ph:Int→Option T) (ρ:Int→Int) (x:Int) (occ:Int→Prop) (a bm:tg):Prop where
 sm:iy ρ a.c bm.c
 sub:∀z,mm a.seen z→mm bm.seen z
 yes:bm.found=true→a.found=true∨ ∃w,occ w∧mG (iO ph ρ) (ρ w) x
 kept:a.found=true→bm.found=true
 no:bm.found=false→(∀w,occ w→ρ w≠x∧((ph (ρ w)).isSome=true→mm bm.seen (ρ w)))∧∀r,mm bm.seen r→¬mm a.seen r→∀u,iO ph ρ r u→u≠x∧((ph u).isSome=true→mm bm.seen u)
theorem Eo{α:Type}{p q:α→Bool}:∀{V:List α},(∀x∈V,q x=true→p x=true)→(V.filter q).length≤(V.filter p).length
 |[],_=>by simp
 |y::V,h=>by have:=Eo (p:=p) (q:=q) (V:=V) fun x ab=>h x (by simp[ab]);have aG:=h y (by simp);simp only[List.filter_cons];cases e:q y<;>cases aB:p y<;>simp_all<;>omega
theorem Ep{α:Type}{p q:α→Bool}{v:α}:∀{V:List α},(∀x∈V,q x=true→p x=true)→v∈V→p v=true→q v=false→(V.filter q).length<(V.filter p).length
 |[],_,h,_,_=>by simp at h
 |x::V,h,aK,bI,bn=>by
  have hle:=Eo (p:=p) (q:=q) (V:=V) fun x ab=>h x (ps _ ab);simp only[List.filter_cons];rcases fU.1 aK with rfl|aK
  ·simp[bI,bn];omega
  ·have:=Ep (fun x ab=>h x (ps _ ab)) aK bI bn;have ab:=h x (by simp);cases e:q x<;>cases aB:p x<;>simp_all<;>omega
theorem alo{V:List Int}{ph:Int→Option T}{s ai:List (Int×Bool)}(h:∀z,mm s z→mm ai z):G1 V ph ai≤G1 V ph s:=
 Eo fun x _ ab=>by
  simp only[cz,rW]at ab⊢;refine⟨ab.1,?_⟩;cases e:(c1 x s).getD false with
  |false=>rfl
  |true=>have:=h x e;unfold mm at this;rw[ab.2]at this;cases this
theorem J4{s:List (Int×Bool)}{r z:Int}:mm (eU r true s) z↔z=r∨mm s z:=by unfold mm;rw[ni];by_cases h:z=r<;>simp[h]
theorem akg{V:List Int}{ph:Int→Option T}{ρ:Int→Int}{x:Int}(gx:nW V ph)(k:Nat):∀(t:T) (a:tg),jr a.c.up ρ→cp a.c.up=V→a.c.ph=ph→(∀w,t.occ w=true→w∈V)→G1 V ph a.seen≤k→
  ∃N bm,(∀n,N≤n→t.foldO (vW (pj n x) x) a=some bm)∧XU V ph ρ x (fun w=>t.occ w=true) a bm:=by
 induction k using Nat.strongRecOn with
 |ind k J3=>
 intro t;induction t with
 |var v=>
  intro a lU ad ji aN B1;obtain⟨bH,J,U⟩:=sU lU (by rw[ad];exact aN v (by simp[T.occ]));have lV:bH.shd (ρ v)=(ph (ρ v)).isSome:=by rw[U.shd,←ji];simp only[bs.ph];split<;>simp_all
  by_cases aI:a.found=true∨ρ v=x
  ·refine⟨0,⟨bH,a.seen,true⟩,fun n _=>by simp[T.foldO,vW,J,aI],U,fun z br=>br,fun _=>?_,fun _=>rfl,fun h=>by cases h⟩;rcases aI with aI|aI
   ·exact .inl aI
   ·exact .inr ⟨v,by simp[T.occ],by rw[aI];exact .refl _⟩
  ·by_cases ag:(c1 (ρ v) a.seen).getD false=false∧bH.shd (ρ v)=true
   ·have EY:ph (ρ v)=some (bH.shp (ρ v)):=by rw[←ji];simp only[bs.ph,U.shp];rw[if_pos (by rw[←U.shd];exact ag.2)]
    obtain⟨g1,g2,g3⟩:=gx _ _ EY;have bC:G1 V ph (eU (ρ v) true a.seen)<k:=by
     refine Nat.lt_of_lt_of_le (Ep (v:=ρ v) (fun z _ br=>?_) g3 ?_ ?_) B1
     ·simp only[cz,rW]at br⊢;refine⟨br.1,?_⟩;rw[ni]at br;by_cases e:z=ρ v
      ·subst e;exact ag.1
      ·rw[if_neg e]at br;exact br.2
     ·simp[EY,ag.1]
     ·simp[ni]
    obtain⟨N,bm,ak,cN⟩:=J3 _ bC (bH.shp (ρ v)) ⟨bH,eU (ρ v) true a.seen,false⟩ U.ru (by rw[U.keys];exact ad) (by rw[U.ph];exact ji) g2 (eR _);refine⟨N+1,bm,fun n aw=>?_,U.trans cN.sm,fun z br=>cN.sub z (J4.2 (.inr br)),fun aG=>?_,fun h=>absurd (.inl h) aI,fun dj=>?_⟩
    ·obtain⟨n',rfl⟩:∃n',n=n'+1:=⟨n-1,by omega⟩;simp only[T.foldO,vW,J,kS,if_neg aI,if_pos ag,pj];exact ak n' (by omega)
    ·rcases cN.yes aG with h|⟨w,a6,bz⟩
     ·cases h
     ·exact .inr ⟨v,by simp[T.occ],.step ⟨by rw[jr.idem lU],_,w,EY,a6,rfl⟩ bz⟩
    ·obtain⟨a6,bz⟩:=cN.no dj;have jg:mm bm.seen (ρ v):=cN.sub _ (J4.2 (.inl rfl));refine⟨fun w hw=>?_,fun r aL df u hu=>?_⟩
     ·simp[T.occ]at hw;subst hw;exact⟨fun e=>aI (.inr e),fun _=>jg⟩
     ·by_cases ql:r=ρ v
      ·subst ql;obtain⟨_,dJ,w,kP,z2,rfl⟩:=hu;rw[EY]at kP;cases kP;exact a6 w z2
      ·exact bz r aL (fun h=>(J4.1 h).elim ql df) u hu
   ·have BD:a.found=false:=by cases e:a.found with
     |false=>rfl
     |true=>exact absurd (.inl e) aI
    refine⟨0,⟨bH,a.seen,a.found⟩,fun n _=>by simp only[T.foldO,vW,J,kS,if_neg aI,if_neg ag],U,fun z br=>br,fun h=>.inl h,fun h=>h,fun _=>⟨fun w hw=>?_,fun r J U=>absurd J U⟩⟩;simp[T.occ]at hw;subst hw;refine⟨fun e=>aI (.inr e),fun bI=>?_⟩;unfold mm;cases e:(c1 (ρ v) a.seen).getD false with
    |true=>rfl
    |false=>exact absurd ⟨e,by rw[lV];exact bI⟩ ag
 |pair p q afk afl=>
  intro a lU ad ji aN B1;obtain⟨hA,bD,ak,cN⟩:=afk a lU ad ji (fun w hw=>aN w (by simp[T.occ,hw])) B1;obtain⟨iQ,a2,aB,dq⟩:=afl bD cN.sm.ru (by rw[cN.sm.keys];exact ad) (by rw[cN.sm.ph];exact ji) (fun w hw=>aN w (by simp[T.occ,hw])) (jV (alo cN.sub) B1);refine⟨max hA iQ,a2,fun n aw=>by simp only[T.foldO];rw[ak n (by omega)];exact aB n (by omega),cN.sm.trans dq.sm,fun z br=>dq.sub z (cN.sub z br),fun aG=>?_,fun h=>dq.kept (cN.kept h),fun dj=>?_⟩
  ·rcases dq.yes aG with h|⟨w,a6,bz⟩
   ·rcases cN.yes h with h|⟨w,a6,bz⟩
    ·exact .inl h
    ·exact .inr ⟨w,by simp[T.occ,a6],bz⟩
   ·exact .inr ⟨w,by simp[T.occ,a6],bz⟩
  ·have adt:bD.found=false:=by cases e:bD.found with
    |false=>rfl
    |true=>have:=dq.kept e;rw[dj]at this;cases this
   obtain⟨dI,eZ⟩:=cN.no adt;obtain⟨s1,s2⟩:=dq.no dj;refine⟨fun w hw=>?_,fun r aL df u hu=>?_⟩
   ·simp only[T.occ,mB]at hw;rcases hw with hw|hw
    ·exact⟨(dI w hw).1,fun h=>dq.sub _ ((dI w hw).2 h)⟩
    ·exact s1 w hw
   ·by_cases h:mm bD.seen r
    ·exact⟨(eZ r h df u hu).1,fun cM=>dq.sub _ ((eZ r h df u hu).2 cM)⟩
    ·exact s2 r aL h u hu
 |_=>intro a lU ad ji aN B1;exact⟨0,a,fun n _=>rfl,iy.refl lU,fun z br=>br,fun h=>.inl h,fun h=>h,fun _=>⟨fun w hw=>by simp[T.occ]at hw,fun r J U=>absurd J U⟩⟩
theorem Gp{ρ:Int→Int}{x:Int}{c:bs}{t:T}(lU:jr c.up ρ)(gx:nW (cp c.up) c.ph)(aN:∀w,t.occ w=true→w∈cp c.up):
  ∃N a,(∀n,N≤n→pj n x t c []=some a)∧iy ρ c a.c∧(a.found=true↔∃w,t.occ w=true∧mG (iO c.ph ρ) (ρ w) x):=by
 obtain⟨N,a,J,U⟩:=akg (x:=x) gx _ t ⟨c,[],false⟩ lU rfl rfl aN (eR _);refine⟨N+1,a,fun n aw=>?_,U.sm,fun h=>?_,fun⟨w,hw,aL⟩=>?_⟩
 ·obtain⟨n',rfl⟩:∃n',n=n'+1:=⟨n-1,by omega⟩;exact J n' (by omega)
 ·rcases U.yes h with h|h
  ·cases h
  ·exact h
 ·cases e:a.found with
  |true=>rfl
  |false=>
   obtain⟨a6,bz⟩:=U.no e;have key:∀z,mG (iO c.ph ρ) z x→z≠x→((c.ph z).isSome=true→mm a.seen z)→eo:=by
    have:∀z y,mG (iO c.ph ρ) z y→y=x→z≠x→((c.ph z).isSome=true→mm a.seen z)→eo:=by
     intro z y aG;induction aG with
     |refl z=>intro h cr;exact absurd h cr
     | @step z b cl he _ bS=>intro ab cF jg;obtain⟨_,dJ,w',kP,_,_⟩:=id he;have ag:=jg (by simp[kP]);obtain⟨g1,g2⟩:=bz z ag (by simp[mm,c1]) b he;exact bS ab g1 g2
    exact fun z br=>this z x br rfl
   exact(key _ aL (a6 w hw).1 (a6 w hw).2).elim
end Go.Pv
namespace Go.Pv
open Go
theorem X5{E:Int→Int→Prop}{x:Int}{r:Int→Nat}{M:Nat}(h:∀z u,z≠x→E z u→r u<r z)(dS:∀u,E x u→r u<M)(aw:∀u,E x u→¬mG E u x):∃eJ:Int→Nat,∀z u,E z u→eJ u<eJ z:=by
 classical
 refine⟨fun z=>if mG E z x then r z+M else r z,fun z u he=>?_⟩;show(if mG E u x then r u+M else r u)<(if mG E z x then r z+M else r z);by_cases br:z=x
 ·subst br;have J:=aw u he;have U:=dS u he;rw[if_neg J,if_pos (mG.refl z)];omega
 ·have J:=h z u br he;by_cases hu:mG E u x
  ·rw[if_pos hu,if_pos (mG.step he hu)];omega
  ·rw[if_neg hu];split<;>omega
def mL(ph:Int→Option T)(ρ:Int→Int):Nat→Int→T
 |0,v=>.var (ρ v)
 |n+1,v=>match ph (ρ v)with
  |none=>.var (ρ v)
  |some t=>t.ap (mL ph ρ n)
section
variable {ph:Int→Option T} {ρ:Int→Int} {r:Int→Nat}
theorem aat(eW:∀v,ρ (ρ v)=ρ v):∀(n:Nat) (v:Int),mL ph ρ n v=mL ph ρ n (ρ v)
 |0,v=>by simp[mL,eW]
 |n+1,v=>by simp[mL,eW]
theorem QC(eW:∀v,ρ (ρ v)=ρ v)(aL:∀z u,iO ph ρ z u→r u<r z):∀(n:Nat) (v:Int),r (ρ v)<n→mL ph ρ n v=mL ph ρ (n+1) v
 |0,_,h=>by omega
 |n+1,v,h=>by
  show(match ph (ρ v)with|none=>T.var (ρ v)|some t=>t.ap (mL ph ρ n))=(match ph (ρ v)with|none=>T.var (ρ v)|some t=>t.ap (mL ph ρ (n+1)));cases e:ph (ρ v)with
  |none=>rfl
  |some t=>refine tn fun w hw=>QC eW aL n w ?_;have:=aL (ρ v) (ρ w) ⟨eW v,t,w,e,hw,rfl⟩;omega
theorem QB(eW:∀v,ρ (ρ v)=ρ v)(aL:∀z u,iO ph ρ z u→r u<r z){n:Nat}{v:Int}(h:r (ρ v)<n):∀k,mL ph ρ (n+k) v=mL ph ρ n v
 |0=>rfl
 |k+1=>by rw[←QB eW aL h k];exact(QC eW aL (n+k) v (by omega)).symm
def gK(ph:Int→Option T)(ρ:Int→Int)(r:Int→Nat)(v:Int):T:=mL ph ρ (r (ρ v)+1) v
theorem yT(eW:∀v,ρ (ρ v)=ρ v)(v:Int):gK ph ρ r v=gK ph ρ r (ρ v):=by unfold gK;rw[aat eW,eW]
theorem Bp{v:Int}(h:ph (ρ v)=none):gK ph ρ r v= .var (ρ v):=by simp[gK,mL,h]
theorem yU(eW:∀v,ρ (ρ v)=ρ v)(aL:∀z u,iO ph ρ z u→r u<r z){v:Int}{t:T}(h:ph (ρ v)=some t):gK ph ρ r v=t.ap (gK ph ρ r):=by show mL ph ρ (r (ρ v)+1) v=_;simp only[mL,h];refine tn fun w hw=>?_;have J:=aL (ρ v) (ρ w) ⟨eW v,t,w,h,hw,rfl⟩;have:=QB eW aL (n:=r (ρ w)+1) (v:=w) (by omega) (r (ρ v)-(r (ρ w)+1));rw[show r (ρ w)+1+(r (ρ v)-(r (ρ w)+1))=r (ρ v)from by omega]at this;exact this
theorem adr(eW:∀v,ρ (ρ v)=ρ v)(aL:∀z u,iO ph ρ z u→r u<r z):jX ph ρ (gK ph ρ r):=⟨yT eW,fun x t ab h=>yU eW aL (by rw[ab];exact h)⟩
theorem GO{V:List Int}(gx:nW V ph){aO:Int→T}(h:jX ph ρ aO){z u:Int}(he:iO ph ρ z u):(aO u).size<(aO z).size:=by obtain⟨J,t,w,U,ao,rfl⟩:=he;rw[h.2 z t J U,←h.1 w];exact(zQ aO ao).2 (gx z t U).1
theorem GP{V:List Int}(gx:nW V ph){aO:Int→T}(h:jX ph ρ aO){z u:Int}(he:mG (iO ph ρ) z u):(aO u).size≤(aO z).size:=by
 induction he with
 |refl=>exact eR _
 |step J _ bS=>have:=GO gx h J;omega
end
theorem Yw(r:Int→Nat)(t:T):∃M,∀w,t.occ w=true→r w<M:=by
 induction t with
 |var n=>exact⟨r n+1,fun w hw=>by simp[T.occ]at hw;subst hw;omega⟩
 |pair a b dQ dR=>
  obtain⟨XQ,J⟩:=dQ;obtain⟨XR,U⟩:=dR;refine⟨XQ+XR,fun w hw=>?_⟩;simp only[T.occ,mB]at hw;rcases hw with hw|hw
  ·have:=J w hw;omega
  ·have:=U w hw;omega
 |_=>exact⟨0,fun w hw=>by simp[T.occ]at hw⟩
theorem C3{ph:Int→Option T}{ρ:Int→Int}(eW:∀v,ρ (ρ v)=ρ v){x:Int}{r:Int→Nat}(h:∀z u,z≠x→iO ph ρ z u→r u<r z)(aw:∀u,iO ph ρ x u→¬mG (iO ph ρ) u x):∃aO,jX ph ρ aO:=by
 have dS:∃M,∀u,iO ph ρ x u→r u<M:=by
  cases e:ph x with
  |none=>exact⟨0,fun u ⟨_,t,w,J,_⟩=>by rw[e]at J;cases J⟩
  |some t=>obtain⟨M,dS⟩:=Yw (fun w=>r (ρ w)) t;refine⟨M,fun u ⟨_,dJ,w,J,U,ao⟩=>?_⟩;rw[e]at J;cases J;subst ao;exact dS w U
 obtain⟨M,dS⟩:=dS;obtain⟨eJ,df⟩:=X5 h dS aw;exact⟨_,adr eW df⟩
structure lK (c:bs) (ρ:Int→Int):Prop where
 ru:jr c.up ρ
 sh:nW (cp c.up) c.ph
 sat:∃aO,jX c.ph ρ aO
theorem lK.sm{c cl:bs}{ρ:Int→Int}(h:lK c ρ)(k:iy ρ c cl):lK cl ρ:=⟨k.ru,by rw[k.keys,k.ph];exact h.sh,by rw[k.ph];exact h.sat⟩
def ia(c:bs)(ρ:Int→Int):Nat:=((cp c.up).filter fun v=>decide (ρ v=v)).length+((cp c.up).filter fun v=>decide (ρ v=v)&& !(c.ph v).isSome).length
theorem wx{c cl:bs}{ρ:Int→Int}(k:iy ρ c cl):ia cl ρ=ia c ρ:=by unfold ia;rw[k.keys,k.ph]
structure iP (c:bs) (ρ:Int→Int) (p:(Int→T)→Prop) (o:Bool×bs):Prop where
 keys:cp o.2.up=cp c.up
 rest:o.2.color=c.color∧o.2.size=c.size∧o.2.full=c.full
 yes:o.1=true→∃ρ',lK o.2 ρ'∧(∀aO,jX o.2.ph ρ' aO↔jX c.ph ρ aO∧p aO)∧((ρ'=ρ∧o.2.ph=c.ph)∨ia o.2 ρ'<ia c ρ)
 no:o.1=false→∀aO,jX c.ph ρ aO→¬p aO
theorem iy.rest{ρ:Int→Int}{c cl:bs}(h:iy ρ c cl):cl.color=c.color∧cl.size=c.size∧cl.full=c.full:=by rw[h.eq];exact⟨rfl,rfl,rfl⟩
theorem iP.sm{c cl:bs}{ρ:Int→Int}{p:(Int→T)→Prop}{o:Bool×bs}(k:iy ρ c cl)(h:iP cl ρ p o):iP c ρ p o:=⟨h.keys.trans k.keys,by rw[h.rest.1,h.rest.2.1,h.rest.2.2];exact k.rest,fun e=>by rw[←wx k,←k.ph];exact h.yes e,by rw[←k.ph];exact h.no⟩
theorem iP.congr{c:bs}{ρ:Int→Int}{p q:(Int→T)→Prop}{o:Bool×bs}(km:∀aO,jX c.ph ρ aO→(p aO↔q aO))(h:iP c ρ p o):iP c ρ q o:=⟨h.keys,h.rest,fun e=>by obtain⟨ρ',J,U,ao⟩:=h.yes e;exact⟨ρ',J,fun aO=>(U aO).trans (and_congr_right fun ag=>km aO ag),ao⟩,fun e aO ag bn=>h.no e aO ag ((km aO ag).2 bn)⟩
theorem vP(c:bs)(x:Int)(t:T)(z:Int):(c.know x t).ph z=if z=x then some t else c.ph z:=by
 simp only[bs.ph,bs.know,bs.shd,bs.shp,ni];by_cases h:z=x
 ·simp[h]
 ·simp only[if_neg h];exact ite_congr rfl (fun _=>rfl) fun _=>rfl
theorem TE{c:bs}{ρ:Int→Int}(hi:lK c ρ){x:Int}(ab:ρ x=x)(ad:x∈cp c.up)(ji:c.ph x=none){t:T}(aN:t.kind≠1)(aK:∀w,t.occ w=true→w∈cp c.up):
  ∃N o,(∀n,N≤n→tZ n x t c=some o)∧iP c ρ (fun aO=>aO x=t.ap aO) o:=by
 have gx:nW (cp (c.know x t).up) (c.know x t).ph:=by
  intro z u br;rw[vP]at br;split at br
  ·rename_i e;cases br;subst e;exact⟨aN,aK,ad⟩
  ·exact hi.sh z u br
 have kZ:∀aO,jX (c.know x t).ph ρ aO↔jX c.ph ρ aO∧aO x=t.ap aO:=by
  intro aO;constructor
  ·rintro⟨J,U⟩;refine⟨⟨J,fun z u br hu=>U z u br ?_⟩,U x t ab (by rw[vP];simp)⟩;rw[vP];split
   ·rename_i e;subst e;rw[ji]at hu;cases hu
   ·exact hu
  ·rintro⟨⟨J,U⟩,ao⟩;refine⟨J,fun z u br hu=>?_⟩;rw[vP]at hu;split at hu
   ·rename_i e;subst e;cases hu;exact ao
   ·exact U z u br hu
 obtain⟨N,a,J,U,ao⟩:=Gp (x:=x) (c:=c.know x t) (t:=t) hi.ru gx aK;refine⟨N,(!a.found,a.c),fun n aw=>by simp[tZ,J n aw],U.keys,U.rest,fun aI=>?_,fun aI aO ag he=>?_⟩
 ·simp only[rW]at aI;have aeG:∀u,iO (c.know x t).ph ρ x u→¬mG (iO (c.know x t).ph ρ) u x:=by rintro u ⟨_,dJ,w,a6,bz,rfl⟩ aL;rw[vP,if_pos rfl]at a6;cases a6;have:=ao.2 ⟨w,bz,aL⟩;rw[aI]at this;cases this
  obtain⟨kQ,tT⟩:=hi.sat
  have aeV:=C3 (ph:=(c.know x t).ph) (ρ:=ρ) hi.ru.idem (x:=x) (r:=fun z=>(kQ z).size) (fun z u br he=>by refine GO hi.sh tT ?_;obtain⟨ak,dJ,w,aB,bf⟩:=he;rw[vP,if_neg br]at aB;exact⟨ak,dJ,w,aB,bf⟩) aeG
  refine⟨ρ,⟨U.ru,?_,?_⟩,fun aO=>?_,.inr ?_⟩
  ·simp only[U.keys,U.ph];exact gx
  ·simp only[U.ph];exact aeV
  ·simp only[U.ph];exact kZ aO
  ·simp only[wx U];unfold ia;have ak:cp (c.know x t).up=cp c.up:=rfl;rw[ak];have:=Ep (V:=cp c.up) (v:=x) (p:=fun v=>decide (ρ v=v)&& !(c.ph v).isSome) (q:=fun v=>decide (ρ v=v)&& !((c.know x t).ph v).isSome) (fun z _ br=>by
    rw[vP]at br;split at br
    ·simp at br
    ·exact br) ad (by simp[ab,ji]) (by simp[vP])
   omega
 ·simp only[Bool.not_eq_false']at aI;obtain⟨w,a6,bz⟩:=ao.1 aI;have gi:=(kZ aO).2 ⟨ag,he⟩;have:=GP gx gi bz;have a8:=(zQ aO a6).2 aN;rw[←he]at a8;rw[←ag.1 w]at this;omega
def iU(ρ:Int→Int)(x y:Int)(v:Int):Int:=if ρ v=y then x else ρ v
section
variable {c:bs} {ρ:Int→Int} {x y:Int}
theorem pP(ab:ρ x=x)(aG:ρ y=y)(hK:x≠y){z:Int}:iU ρ x y z=z↔ρ z=z∧z≠y:=by
 unfold iU;split
 ·rename_i e;constructor
  ·intro h;subst h;rw[ab]at e;exact absurd e hK
  ·rintro⟨J,U⟩;rw[J]at e;exact absurd e U
 ·rename_i e;constructor
  ·intro h;exact⟨h,fun aB=>e (by rw[aB,aG])⟩
  ·exact fun h=>h.1
theorem jr.join(h:jr c.up ρ)(ab:ρ x=x)(aG:ρ y=y)(hK:x<y)(Ci:x∈cp c.up)(ua:y∈cp c.up):jr (c.join x y).up (iU ρ x y):=by
 have ad:cp (c.join x y).up=cp c.up:=Cg ua;refine⟨fun v u aK=>?_,fun v aK=>?_⟩
 ·rw[ad];have lW:c1 v (eU y x c.up)=some u:=aK;rw[ni]at lW;by_cases e:v=y
  ·subst e;rw[if_pos rfl]at lW;cases lW;have bB:=(h.mem Ci).2;rw[ab]at bB;refine⟨⟨bB,by omega,Ci⟩,?_,⟨fun e=>?_,fun e=>by omega⟩⟩
   ·unfold iU;rw[ab,aG,if_pos rfl,if_neg (by omega)]
   ·have:=((pP ab aG (by omega)).1 e).2;exact absurd rfl this
  ·rw[if_neg e]at lW;obtain⟨bD,a2,a3⟩:=h.up v u lW;refine⟨bD,by unfold iU;rw[a2],?_⟩;rw[pP ab aG (by omega),a3];exact⟨fun h=>h.1,fun h=>⟨h,e⟩⟩
 ·rw[ad]at aK;have:=h.no v aK;unfold iU;rw[this,if_neg fun e=>aK (by rw[e];exact ua)]
theorem akP{ph:Int→Option T}(ab:ρ x=x)(aG:ρ y=y)(hK:x≠y)(aO:Int→T):(jX ph (iU ρ x y) aO∧∀t,ph y=some t→aO x=t.ap aO)↔(jX ph ρ aO∧aO x=aO y):=by
 constructor
 ·rintro⟨⟨J,U⟩,ao⟩;have J1:aO y=aO x:=by have:=J y;simpa[iU,aG]using this
  refine⟨⟨fun v=>?_,fun z t br aN=>?_⟩,J1.symm⟩
  ·have:=J v;unfold iU at this;split at this
   ·rename_i e;rw[e,this,J1]
   ·exact this
  ·by_cases e:z=y
   ·subst e;rw[J1];exact ao t aN
   ·exact U z t ((pP ab aG hK).2 ⟨br,e⟩) aN
 ·rintro⟨⟨J,U⟩,ao⟩;refine⟨⟨fun v=>?_,fun z t br aN=>U z t ((pP ab aG hK).1 br).1 aN⟩,fun t aN=>by rw[ao];exact U y t aG aN⟩;unfold iU;split
  ·rename_i e;rw[J v,e,ao]
  ·exact J v
theorem akf{V:List Int}{ph:Int→Option T}(gx:nW V ph)(ab:ρ x=x)(aG:ρ y=y)(hK:x≠y){aO:Int→T}(h:jX ph ρ aO){z u:Int}(br:z≠x)(he:iO ph (iU ρ x y) z u):(if u=x then 0 else(aO u).size)<(if z=x then 0 else(aO z).size):=by
 obtain⟨J,t,w,U,ao,rfl⟩:=he;have aL:=(pP ab aG hK).1 J;rw[if_neg br];split
 ·exact T.size_pos _
 ·rename_i cF;have:iU ρ x y w=ρ w:=by
   unfold iU at cF⊢;split
   ·rename_i e;rw[if_pos e]at cF;exact absurd rfl cF
   ·rfl
  rw[this];exact GO gx h ⟨aL.1,t,w,U,ao,rfl⟩
theorem XN(ab:ρ x=x)(aG:ρ y=y)(hK:x≠y)(ua:y∈cp c.up):ia (c.join x y) (iU ρ x y)<ia c ρ:=by have ad:cp (c.join x y).up=cp c.up:=Cg ua;have bI:(c.join x y).ph=c.ph:=rfl;unfold ia;rw[ad,bI];have J:=Ep (V:=cp c.up) (v:=y) (p:=fun v=>decide (ρ v=v)) (q:=fun v=>decide (iU ρ x y v=v)) (fun z _ br=>by simp only[fE]at br⊢;exact((pP ab aG hK).1 br).1) ua (by simp[aG]) (by simp only[hE];exact fun h=>((pP ab aG hK).1 h).2 rfl);have U:=Eo (V:=cp c.up) (p:=fun v=>decide (ρ v=v)&& !(c.ph v).isSome) (q:=fun v=>decide (iU ρ x y v=v)&& !(c.ph v).isSome) (fun z _ br=>by simp only[cz,fE]at br⊢;exact⟨((pP ab aG hK).1 br.1).1,br.2⟩);omega
end
theorem z1{c:bs}{x:Int}(h:c.shd x=false):c.ph x=none:=by simp[bs.ph,h]
theorem z6{c:bs}{x:Int}(h:¬c.shd x=false):c.ph x=some (c.shp x):=by simp[bs.ph];simpa using h
theorem Qu{c:bs}{ρ:Int→Int}(hi:lK c ρ){x y:Int}(ab:ρ x=x)(aG:ρ y=y)(hK:x<y)(Ci:x∈cp c.up)(ua:y∈cp c.up)
  (rec:∀(bH:bs) (k9:Int→Int),lK bH k9→cp bH.up=cp c.up→ia bH k9<ia c ρ→∀a b:T,(∀w,a.occ w=true→w∈cp c.up)→(∀w,b.occ w=true→w∈cp c.up)→∃N o,(∀n,N≤n→gq n a b bH=some o)∧iP bH k9 (fun aO=>a.ap aO=b.ap aO) o):
  ∃N o,(∀n,N≤n→qW (gq n) n x y (c.join x y)=some o)∧iP c ρ (fun aO=>aO x=aO y) o:=by
 have cF:x≠y:=by omega
 have ad:cp (c.join x y).up=cp c.up:=Cg ua;have bI:(c.join x y).ph=c.ph:=rfl;have lU:=hi.ru.join ab aG hK Ci ua;have c9:=XN (c:=c) ab aG cF ua;have gx:nW (cp (c.join x y).up) (c.join x y).ph:=by rw[ad,bI];exact hi.sh
 obtain⟨kQ,tT⟩:=hi.sat
 have E1:∀z u,z≠x→iO c.ph (iU ρ x y) z u→(fun z=>if z=x then 0 else(kQ z).size) u<(fun z=>if z=x then 0 else(kQ z).size) z:=fun z u br he=>akf hi.sh ab aG cF tT br he;have kZ:=fun aO=>akP (ph:=c.ph) ab aG cF aO;have SB:∀{cl:bs},iy (iU ρ x y) (c.join x y) cl→(∃aO,jX c.ph (iU ρ x y) aO)→c.ph y=none→iP c ρ (fun aO=>aO x=aO y) (true,cl):=by intro cl k ag aw;refine⟨k.keys.trans ad,k.rest,fun _=>⟨iU ρ x y,⟨k.ru,by simp only[k.keys,k.ph];exact gx,by simp only[k.ph];exact ag⟩,fun aO=>?_,.inr (by simp only[wx k];exact c9)⟩,fun e=>by cases e⟩;simp only[k.ph,bI];rw[←kZ aO];exact⟨fun h=>⟨h,fun t aN=>by rw[aw]at aN;cases aN⟩,fun h=>h.1⟩
 by_cases J:(c.join x y).shd y=false
 ·have Sp:c.ph y=none:=z1 J;by_cases U:(c.join x y).shd x=false
  ·have ze:c.ph x=none:=z1 U;refine⟨0,(true,c.join x y),fun n _=>by simp only[qW,if_pos J,if_pos U],SB (iy.refl lU) ?_ Sp⟩;exact C3 lU.idem (x:=x) E1 fun u ⟨_,t,w,q,_⟩=>by rw[ze]at q;cases q
  ·have nC:c.ph x=some ((c.join x y).shp x):=z6 U;obtain⟨N,a,ak,aB,bf⟩:=Gp (x:=x) (c:=c.join x y) (t:=(c.join x y).shp x) lU gx (by rw[ad];exact(hi.sh _ _ nC).2.1);refine⟨N,(!a.found,a.c),fun n aw=>by simp only[qW,if_pos J,if_neg U,ak n aw,nQ],?_⟩;cases aI:a.found with
   |false=>refine SB aB (C3 lU.idem (x:=x) E1 fun u ⟨_,t,w,a6,bz,bU⟩ aL=>?_) Sp;rw[nC]at a6;cases a6;subst bU;have:=bf.2 ⟨w,bz,aL⟩;rw[aI]at this;cases this
   |true=>refine⟨aB.keys.trans ad,aB.rest,(fun e=>by cases e),fun _ aO ag he=>?_⟩;obtain⟨w,a6,bz⟩:=bf.1 aI;have gi:=((kZ aO).2 ⟨ag,he⟩).1;have ao:=GP hi.sh gi bz;have a8:=(zQ aO a6).2 (hi.sh _ _ nC).1;rw[←gi.2 x _ ((pP ab aG cF).2 ⟨ab,cF⟩) nC]at a8;rw[←gi.1 w]at ao;omega
 ·have qw:c.ph y=some ((c.join x y).shp y):=z6 J;by_cases U:(c.join x y).shd x=false
  ·have ze:c.ph x=none:=z1 U;have lR:lK (c.join x y) (iU ρ x y):=⟨lU,gx,C3 lU.idem (x:=x) E1 fun u ⟨_,t,w,q,_⟩=>by rw[bI,ze]at q;cases q⟩;obtain⟨N,o,ak,aB⟩:=TE lR (x:=x) ((pP ab aG cF).2 ⟨ab,cF⟩) (by rw[ad];exact Ci) ze (t:=(c.join x y).shp y) (hi.sh _ _ qw).1 (by rw[ad];exact(hi.sh _ _ qw).2.1);refine⟨N,o,fun n aw=>by simp only[qW,if_neg J,if_pos U,ak n aw],aB.keys.trans ad,aB.rest,fun aI=>?_,fun aI aO ag he=>?_⟩
   ·obtain⟨ρ',g1,g2,g3⟩:=aB.yes aI;refine⟨ρ',g1,fun aO=>?_,.inr ?_⟩
    ·rw[g2 aO,←kZ aO];refine and_congr_right fun _=>⟨fun h t aN=>by rw[qw]at aN;cases aN;exact h,fun h=>h _ qw⟩
    ·rcases g3 with⟨rfl,g3⟩|g3
     ·have:ia o.2 (iU ρ x y)=ia (c.join x y) (iU ρ x y):=by unfold ia;rw[aB.keys,g3]
      omega
     ·omega
   ·obtain⟨s1,s2⟩:=(kZ aO).2 ⟨ag,he⟩;exact aB.no aI aO s1 (s2 _ qw)
  ·have nC:c.ph x=some ((c.join x y).shp x):=z6 U;obtain⟨hA,a,ak,aB,bf⟩:=Gp (x:=x) (c:=c.join x y) (t:=(c.join x y).shp y) lU gx (by rw[ad];exact(hi.sh _ _ qw).2.1);cases aI:a.found with
   |true=>refine⟨hA,(false,a.c),fun n aw=>by simp only[qW,if_neg J,if_neg U,ak n aw,kS,aI,if_true],aB.keys.trans ad,aB.rest,(fun e=>by cases e),fun _ aO ag he=>?_⟩;obtain⟨w,a6,bz⟩:=bf.1 aI;obtain⟨gi,o9⟩:=(kZ aO).2 ⟨ag,he⟩;have ao:=GP hi.sh gi bz;have a8:=(zQ aO a6).2 (hi.sh _ _ qw).1;rw[←o9 _ qw]at a8;rw[←gi.1 w]at ao;omega
   |false=>
    have SE:a.c.shp x=(c.join x y).shp x:=aB.shp x;obtain⟨iQ,b,f1,f2,f3⟩:=Gp (x:=x) (c:=a.c) (t:=(c.join x y).shp x) aB.ru (by rw[aB.keys,aB.ph];exact gx) (by rw[aB.keys,ad];exact(hi.sh _ _ nC).2.1);have e4:=aB.trans f2;cases a1:b.found with
    |true=>refine⟨max hA iQ,(false,b.c),fun n aw=>by simp only[qW,if_neg J,if_neg U,ak n (by omega),kS,aI,SE,f1 n (by omega),a1,if_true,gP,if_false],e4.keys.trans ad,e4.rest,(fun e=>by cases e),fun _ aO ag he=>?_⟩;obtain⟨w,a6,bz⟩:=f3.1 a1;obtain⟨gi,_⟩:=(kZ aO).2 ⟨ag,he⟩;rw[aB.ph]at bz;have ao:=GP hi.sh gi bz;have a8:=(zQ aO a6).2 (hi.sh _ _ nC).1;rw[←gi.2 x _ ((pP ab aG cF).2 ⟨ab,cF⟩) nC]at a8;rw[←gi.1 w]at ao;omega
    |false=>
     have y6:lK b.c (iU ρ x y):=by refine⟨e4.ru,by rw[e4.keys,e4.ph];exact gx,?_⟩;rw[e4.ph];refine C3 lU.idem (x:=x) E1 fun u ⟨_,t,w,a6,bz,bU⟩ aL=>?_;rw[bI,nC]at a6;cases a6;subst bU;have:=f3.2 ⟨w,bz,by rw[aB.ph];exact aL⟩;rw[a1]at this;cases this
     obtain⟨yn,o,g1,g2⟩:=rec b.c (iU ρ x y) y6 (e4.keys.trans ad) (by rw[wx e4];exact c9) ((c.join x y).shp x) ((c.join x y).shp y) (hi.sh _ _ nC).2.1 (hi.sh _ _ qw).2.1;refine⟨max (max hA iQ) yn,o,fun n aw=>?_,g2.keys.trans (e4.keys.trans ad),?_,fun cM=>?_,fun cM aO ag he=>?_⟩
     ·simp only[qW,if_neg J,if_neg U,ak n (by omega),kS,aI,SE,f1 n (by omega),a1,gP,if_false,e4.shp];exact g1 n (by omega)
     ·rw[g2.rest.1,g2.rest.2.1,g2.rest.2.2];exact e4.rest
     ·obtain⟨ρ',a6,bz,bU⟩:=g2.yes cM;refine⟨ρ',a6,fun aO=>?_,.inr ?_⟩
      ·rw[bz aO,e4.ph,bI,←kZ aO];refine and_congr_right fun h=>?_;have:=h.2 x _ ((pP ab aG cF).2 ⟨ab,cF⟩) nC;rw[←this];exact⟨fun h t aN=>by rw[qw]at aN;cases aN;exact h,fun h=>h _ qw⟩
      ·have:ia b.c (iU ρ x y)<ia c ρ:=by rw[wx e4];exact c9
       rcases bU with⟨rfl,bU⟩|bU
       ·have:ia o.2 (iU ρ x y)=ia b.c (iU ρ x y):=by unfold ia;rw[g2.keys,bU]
        omega
       ·omega
     ·obtain⟨s1,s2⟩:=(kZ aO).2 ⟨ag,he⟩;refine g2.no cM aO (by rw[e4.ph];exact s1) ?_;have:=s1.2 x _ ((pP ab aG cF).2 ⟨ab,cF⟩) nC;rw[←this];exact s2 _ qw
def tw:T→T→Nat
 | .var _,_=>1
 |_,.var _=>2
 |_,_=>0
theorem ZA(K:Nat):∀(m:Nat) (c:bs) (ρ:Int→Int) (a b:T) (kQ:Int→T),lK c ρ→jX c.ph ρ kQ→(∀w,a.occ w=true→w∈cp c.up)→(∀w,b.occ w=true→w∈cp c.up)→ia c ρ=K→((a.ap kQ).size+(b.ap kQ).size)*3+tw a b=m→
  ∃N o,(∀n,N≤n→gq n a b c=some o)∧iP c ρ (fun aO=>a.ap aO=b.ap aO) o:=by
 induction K using Nat.strongRecOn with
 |ind K afj=>
 have SN:∀(bH:bs) (k9:Int→Int),lK bH k9→ia bH k9<K→∀a b:T,(∀w,a.occ w=true→w∈cp bH.up)→(∀w,b.occ w=true→w∈cp bH.up)→∃N o,(∀n,N≤n→gq n a b bH=some o)∧iP bH k9 (fun aO=>a.ap aO=b.ap aO) o:=by
  intro bH k9 J U a b bE ae;obtain⟨aO,hh⟩:=J.sat
  exact afj _ U _ bH k9 a b aO J hh bE ae rfl rfl
 intro m;induction m using Nat.strongRecOn with
 |ind m zu=>
 intro c ρ a b kQ hi tT bE ae c9 hm;have aep:∀{a b:T},(∀n,gq (n+1) a b c=some (decide (a=b),c))→(∀aO,a.ap aO=a)→(∀aO,b.ap aO=b)→∃N o,(∀n,N≤n→gq n a b c=some o)∧iP c ρ (fun aO=>a.ap aO=b.ap aO) o:=by
  intro a b J U ao;refine⟨1,(decide (a=b),c),fun n aw=>?_,rfl,⟨rfl,rfl,rfl⟩,fun h=>?_,fun h aO _ he=>?_⟩
  ·obtain⟨n',rfl⟩:∃n',n=n'+1:=⟨n-1,by omega⟩;exact J n'
  ·simp only[fE]at h;subst h;exact⟨ρ,hi,fun aO=>⟨fun h=>⟨h,rfl⟩,fun h=>h.1⟩,.inl ⟨rfl,rfl⟩⟩
  ·simp only[hE]at h;rw[U,ao]at he;exact h he
 have RM:∀{a b:T},(∀n,gq (n+1) a b c=some (decide (a=b),c))→(∀aO,a.ap aO≠b.ap aO)→a≠b→∃N o,(∀n,N≤n→gq n a b c=some o)∧iP c ρ (fun aO=>a.ap aO=b.ap aO) o:=by intro a b J U ao;refine⟨1,(false,c),fun n aw=>?_,rfl,⟨rfl,rfl,rfl⟩,(fun h=>by cases h),fun _ aO _ he=>U aO he⟩;obtain⟨n',rfl⟩:∃n',n=n'+1:=⟨n-1,by omega⟩;rw[J n',jn ao]
 have vs:∀(i:Int) (b:T),b.kind≠1→(∀n,gq (n+1) (.var i) b c=(rt c i).bind fun p=>if p.2.shd p.1=false then tZ n p.1 b p.2 else gq n (p.2.shp p.1) b p.2)→i∈cp c.up→(∀w,b.occ w=true→w∈cp c.up)→((kQ i).size+(b.ap kQ).size)*3<m→∃N o,(∀n,N≤n→gq n (.var i) b c=some o)∧iP c ρ (fun aO=>aO i=b.ap aO) o:=by
  intro i b n9 RP vA ae bC;obtain⟨bH,ak,aS⟩:=sU hi.ru vA;have lR:=hi.sm aS;by_cases ag:bH.shd (ρ i)=false
  ·obtain⟨N,o,aB,dq⟩:=TE lR (x:=ρ i) (hi.ru.idem i) (by rw[aS.keys];exact(hi.ru.mem vA).1) (z1 ag) n9 (by rw[aS.keys];exact ae);refine⟨N+1,o,fun n aw=>?_,iP.sm aS (iP.congr (fun aO h=>?_) dq)⟩
   ·obtain⟨n',rfl⟩:∃n',n=n'+1:=⟨n-1,by omega⟩;rw[RP,ak];simp only[kS,if_pos ag];exact aB n' (by omega)
   ·rw[←h.1 i]
  ·have nC:bH.ph (ρ i)=some (bH.shp (ρ i)):=z6 ag;have kZ:∀aO,jX bH.ph ρ aO→aO i=(bH.shp (ρ i)).ap aO:=fun aO h=>by rw[h.1 i];exact h.2 _ _ (hi.ru.idem i) nC
   have hg:=(lR.sh _ _ nC).1;have ad0:tw (bH.shp (ρ i)) b=0:=by cases e:bH.shp (ρ i)<;>cases b<;>simp_all[tw,T.kind]
   have SL:jX bH.ph ρ kQ:=by rw[aS.ph];exact tT
   obtain⟨N,o,aB,dq⟩:=zu (((bH.shp (ρ i)).ap kQ).size*3+(b.ap kQ).size*3) (by rw[←kZ kQ SL];omega) bH ρ (bH.shp (ρ i)) b kQ lR SL (lR.sh _ _ nC).2.1 (by rw[aS.keys];exact ae) (by rw[wx aS];exact c9) (by rw[ad0];omega);refine⟨N+1,o,fun n aw=>?_,iP.sm aS (iP.congr (fun aO h=>?_) dq)⟩
   ·obtain⟨n',rfl⟩:∃n',n=n'+1:=⟨n-1,by omega⟩;rw[RP,ak];simp only[kS,if_neg ag];exact aB n' (by omega)
   ·rw[kZ aO h]
 have B3:∀(i j:Int),i∈cp c.up→j∈cp c.up→∃N o,(∀n,N≤n→gq n (.var i) (.var j) c=some o)∧iP c ρ (fun aO=>aO i=aO j) o:=by
  intro i j vA Fu;obtain⟨bH,ak,aS⟩:=sU hi.ru vA;obtain⟨cj,aB,bp⟩:=sU aS.ru (by rw[aS.keys];exact Fu:j∈cp bH.up);have sC:=aS.trans bp;have hv:=hi.sm sC;have vg:ρ i∈cp cj.up:=by rw[sC.keys];exact(hi.ru.mem vA).1
  have R5:ρ j∈cp cj.up:=by rw[sC.keys];exact(hi.ru.mem Fu).1
  have vm:∀(bH:bs) (k9:Int→Int),lK bH k9→cp bH.up=cp cj.up→ia bH k9<ia cj ρ→∀a b:T,(∀w,a.occ w=true→w∈cp cj.up)→(∀w,b.occ w=true→w∈cp cj.up)→∃N o,(∀n,N≤n→gq n a b bH=some o)∧iP bH k9 (fun aO=>a.ap aO=b.ap aO) o:=fun da ρ3 J U ao a b bE ae=>SN da ρ3 J (by rw[wx sC,c9]at ao;exact ao) a b (by rw[U];exact bE) (by rw[U];exact ae);rcases Int.lt_trichotomy (ρ i) (ρ j)with h|h|h
  ·obtain⟨N,o,bf,iJ⟩:=Qu hv (hi.ru.idem i) (hi.ru.idem j) h vg R5 vm;refine⟨N+1,o,fun n aw=>?_,iP.sm sC (iP.congr (fun aO h=>?_) iJ)⟩
   ·obtain⟨n',rfl⟩:∃n',n=n'+1:=⟨n-1,by omega⟩;simp only[gq,ak,aB,kS];rw[if_neg (by omega),if_neg (by omega)];exact bf n' (by omega)
   ·rw[h.1 i,h.1 j]
  ·refine⟨1,(true,cj),fun n aw=>?_,sC.keys,sC.rest,fun _=>⟨ρ,hv,fun aO=>?_,.inl ⟨rfl,sC.ph⟩⟩,fun e=>by cases e⟩
   ·obtain⟨n',rfl⟩:∃n',n=n'+1:=⟨n-1,by omega⟩;simp only[gq,ak,aB,kS,if_pos h]
   ·simp only[sC.ph];exact⟨fun ag=>⟨ag,by rw[ag.1 i,ag.1 j,h]⟩,fun ag=>ag.1⟩
  ·obtain⟨N,o,bf,iJ⟩:=Qu hv (hi.ru.idem j) (hi.ru.idem i) h R5 vg vm;refine⟨N+1,o,fun n aw=>?_,iP.sm sC (iP.congr (fun aO h=>?_) iJ)⟩
   ·obtain⟨n',rfl⟩:∃n',n=n'+1:=⟨n-1,by omega⟩;simp only[gq,ak,aB,kS];rw[if_neg (by omega),if_pos h];exact bf n' (by omega)
   ·rw[h.1 i,h.1 j];exact⟨Eq.symm,Eq.symm⟩
 have zn:∀(a:T) (j:Int),a.kind≠1→(∀n,gq (n+1) a (.var j) c=gq n (.var j) a c)→(∀n,gq (n+1) (.var j) a c=(rt c j).bind fun p=>if p.2.shd p.1=false then tZ n p.1 a p.2 else gq n (p.2.shp p.1) a p.2)→j∈cp c.up→(∀w,a.occ w=true→w∈cp c.up)→((kQ j).size+(a.ap kQ).size)*3<m→∃N o,(∀n,N≤n→gq n a (.var j) c=some o)∧iP c ρ (fun aO=>a.ap aO=aO j) o:=by intro a j J U ao Fu bE bC;obtain⟨N,o,ak,cN⟩:=vs j a J ao Fu bE bC;refine⟨N+1,o,fun n aw=>?_,iP.congr (fun aO _=>⟨Eq.symm,Eq.symm⟩) cN⟩;obtain⟨n',rfl⟩:∃n',n=n'+1:=⟨n-1,by omega⟩;rw[U];exact ak n' (by omega)
 cases a with
 |var i=>
  have vA:i∈cp c.up:=bE i (by simp[T.occ]);cases b with
  |var j=>exact B3 i j vA (ae j (by simp[T.occ]))
  |_=>exact vs i _ (by simp[T.kind]) (fun n=>rfl) vA ae (by simp only[T.ap,tw]at hm⊢;omega)
 |pair bD a2=>
  cases b with
  |var j=>exact zn _ j (by simp[T.kind]) (fun n=>rfl) (fun n=>rfl) (ae j (by simp[T.occ])) bE (by simp only[T.ap,tw]at hm⊢;omega)
  |pair cc b4=>
   have sn:∀p q:T,tw p q≤2:=fun p q=>by cases p<;>cases q<;>simp[tw]
   have kW:∀w,bD.occ w=true→w∈cp c.up:=fun w hw=>bE w (by simp[T.occ,hw]);have pI:∀w,a2.occ w=true→w∈cp c.up:=fun w hw=>bE w (by simp[T.occ,hw]);have ll:∀w,cc.occ w=true→w∈cp c.up:=fun w hw=>ae w (by simp[T.occ,hw]);have o7:∀w,b4.occ w=true→w∈cp c.up:=fun w hw=>ae w (by simp[T.occ,hw]);simp only[T.ap,T.size,tw]at hm;have f1:=sn bD cc;have f2:=sn a2 b4;obtain⟨hA,gy,ak,cN⟩:=zu _ (by rw[←hm];omega) c ρ bD cc kQ hi tT kW ll c9 rfl;obtain⟨agW,bH⟩:=gy;cases agW with
   |false=>refine⟨hA+1,(false,bH),fun n aw=>?_,cN.keys,cN.rest,(fun e=>by cases e),fun _ aO ag he=>cN.no rfl aO ag (by simp only[T.ap,T.pair.injEq]at he;exact he.1)⟩;obtain⟨n',rfl⟩:∃n',n=n'+1:=⟨n-1,by omega⟩;simp only[gq,ak n' (by omega),kS,gP,if_false]
   |true=>
    obtain⟨k9,a6,bz,bU⟩:=cN.yes rfl;simp only at a6 bz bU;have xc:cp bH.up=cp c.up:=cN.keys;have BW:∃iQ gv,(∀n,iQ≤n→gq n a2 b4 bH=some gv)∧iP bH k9 (fun aO=>a2.ap aO=b4.ap aO) gv:=by
     rcases bU with⟨rfl,bU⟩|bU
     ·exact zu _ (by rw[←hm];omega) bH k9 a2 b4 kQ a6 (by rw[bU];exact tT) (by rw[xc];exact pI) (by rw[xc];exact o7) (by unfold ia;rw[xc,bU];exact c9) rfl
     ·exact SN bH k9 a6 (by omega) a2 b4 (by rw[xc];exact pI) (by rw[xc];exact o7)
    obtain⟨iQ,gv,aB,dq⟩:=BW;refine⟨max hA iQ+1,gv,fun n aw=>?_,dq.keys.trans xc,?_,fun aI=>?_,fun aI aO ag he=>?_⟩
    ·obtain⟨n',rfl⟩:∃n',n=n'+1:=⟨n-1,by omega⟩;simp only[gq,ak n' (by omega),kS,if_true];exact aB n' (by omega)
    ·rw[dq.rest.1,dq.rest.2.1,dq.rest.2.2];exact cN.rest
    ·obtain⟨ρ2,s1,s2,s3⟩:=dq.yes aI;refine⟨ρ2,s1,fun aO=>?_,?_⟩
     ·rw[s2 aO,bz aO];simp only[T.ap,T.pair.injEq,and_assoc]
     ·rcases bU with⟨rfl,bU⟩|bU
      ·rcases s3 with⟨rfl,s3⟩|s3
       ·exact .inl ⟨rfl,s3.trans bU⟩
       ·have:ia bH k9=ia c k9:=by unfold ia;rw[xc,bU]
        exact .inr (by omega)
      ·rcases s3 with⟨rfl,s3⟩|s3
       ·have:ia gv.2 ρ2=ia bH ρ2:=by unfold ia;rw[dq.keys,s3]
        exact .inr (by omega)
       ·exact .inr (by omega)
    ·simp only[T.ap,T.pair.injEq]at he;exact dq.no aI aO ((bz aO).2 ⟨ag,he.1⟩) he.2
  |_=>exact RM (fun n=>rfl) (fun aO=>by simp[T.ap]) (by simp)
 |_=>
  cases b with
  |var j=>exact zn _ j (by simp[T.kind]) (fun n=>rfl) (fun n=>rfl) (ae j (by simp[T.occ])) bE (by simp only[T.ap,tw]at hm⊢;omega)
  |_=>first|exact aep (fun n=>rfl) (fun aO=>rfl) (fun aO=>rfl)|exact RM (fun n=>rfl) (fun aO=>by simp[T.ap]) (by simp)
end Go.Pv
namespace Go.Pv
open Go
def yf(rec:Int→bs→Option (Bool×bs))(v:Int)(a:bs×Bool):Option (bs×Bool):=if a.2=true then(rt a.1 v).bind fun p=>(rec p.1 p.2).map fun q=>(q.2,q.1)else some a
def x4(v:Int)(c:bs):Option (Int×bs):=(rt c v).map fun p=>(p.2.sz p.1,p.2)
def bs.grey(c:bs)(x:Int):bs:={c with color:=eU x 1 c.color,size:=eU x 1 c.size}
def bs.black(c:bs)(x:Int):bs:={c with color:=eU x 2 c.color}
def p3:Nat→Int→bs→Option (Bool×bs)
 |0,_,_=>none
 |n+1,x,c=>if c.col x=2 then some (true,c)else if c.col x=1 then some (false,c)else
   if(c.grey x).shd x=false then some (true,(c.grey x).black x)else
   (((c.grey x).shp x).foldO (yf (p3 n)) (c.grey x,true)).bind fun a=>if a.2=false then some (false,a.1)else
   (((a.1.shp x).sizeO x4 a.1).map fun p=>(true,{p.2 with size:=eU x p.1 p.2.size}.black x))
def AI(rec:Int→bs→Option (T×bs))(v:Int)(c:bs):Option (T×bs):=(rt c v).bind fun p=>rec p.1 p.2
def p2:Nat→Int→bs→Option (T×bs)
 |0,_,_=>none
 |n+1,x,c=>match c1 x c.full with
  |some t=>some (t,c)
  |none=>if c.shd x=false then some (.var x,{c with full:=eU x (.var x) c.full})else
   ((c.shp x).mapO (AI (p2 n)) c).map fun p=>(p.1,{p.2 with full:=eU x p.1 p.2.full})
def rM(n:Nat):List Int→bs→List Int→Option (Option (List Int)×bs)
 |[],c,out=>some (some out,c)
 |v::ba,c,out=>(rt c v).bind fun p=>(p3 n p.1 p.2).bind fun q=>if q.1=false then some (none,q.2)else
   if p.1=v∧q.2.shd p.1=false then rM n ba q.2 out else
   if 5000<q.2.sz p.1∨400<out.length+1 then some (none,q.2)else rM n ba q.2 (out++[v])
def x5(n:Nat):List Int→bs→Option (List ar×bs)
 |[],c=>some ([],c)
 |v::ba,c=>(rt c v).bind fun p=>(p2 n p.1 p.2).bind fun q=>(x5 n ba q.2).map fun r=>(⟨v,q.1⟩::r.1,r.2)
def C8(n:Nat)(ba:List Int)(c:bs):Option (Option (List ar)):=(rM n ba c []).bind fun a=>match a.1 with
 |none=>some none
 |some out=>(x5 n out a.2).map fun r=>some r.1
def pE(n:Nat):List (T×T)→bs→Option (Bool×bs)
 |[],c=>some (true,c)
 |e::es,c=>(zG e.1 c).bind fun bH=>(zG e.2 bH).bind fun cj=>(gq n e.1 e.2 cj).bind fun p=>if p.1=true then pE n es p.2 else some (false,p.2)
theorem lK.rank{c:bs}{ρ:Int→Int}(h:lK c ρ):∃r:Int→Nat,∀z u,iO c.ph ρ z u→r u<r z:=by
 obtain⟨aO,hh⟩:=h.sat
 exact⟨fun z=>(aO z).size,fun z u he=>GO h.sh hh he⟩
structure te (V:List Int) (ph:Int→Option T) (ρ:Int→Int) (c:bs):Prop where
 ru:jr c.up ρ
 keys:cp c.up=V
 ph:c.ph=ph
theorem te.sm{V:List Int}{ph:Int→Option T}{ρ:Int→Int}{c cl:bs}(h:te V ph ρ c)(k:iy ρ c cl):te V ph ρ cl:=⟨k.ru,k.keys.trans h.keys,k.ph.trans h.ph⟩
def cut(n:Nat):Int:=if 5001<(n:Int)then 5001 else n
section
variable {V:List Int} {ph:Int→Option T} {ρ:Int→Int} {r:Int→Nat}
theorem akF(Dt:Int→T):∀(t:T) (c:bs),te V ph ρ c→(∀w,t.occ w=true→w∈V∧c.sz (ρ w)=cut (Dt w).size)→∃cl,t.sizeO x4 c=some (cut (t.ap Dt).size,cl)∧iy ρ c cl:=by
 intro t;induction t with
 |var v=>
  intro c h aN;obtain⟨aK,br⟩:=aN v (by simp[T.occ]);obtain⟨bH,J,U⟩:=sU h.ru (by rw[h.keys];exact aK:v∈cp c.up);refine⟨bH,?_,U⟩;have:bH.sz (ρ v)=cut (Dt v).size:=by rw[←br,U.eq];rfl
  simp only[T.sizeO,x4,J,nQ,this,T.ap,dG,jm,and_true];unfold cut;split<;>omega
 |pair a b dQ dR=>
  intro c h aN;obtain⟨bH,J,aS⟩:=dQ c h fun w hw=>aN w (by simp[T.occ,hw]);obtain⟨cj,U,bp⟩:=dR bH (h.sm aS) fun w hw=>⟨(aN w (by simp[T.occ,hw])).1,by rw[←(aN w (by simp[T.occ,hw])).2,aS.eq];rfl⟩;have ae:=T.size_pos (b.ap Dt);simp only[T.sizeO,J,kS,T.ap,T.size];by_cases ay:5000<cut (a.ap Dt).size
  ·rw[if_pos ay];refine⟨bH,?_,aS⟩;simp only[dG,jm,and_true];unfold cut at ay⊢;split at ay<;>split<;>(try split)<;>omega
  ·rw[if_neg ay,U];refine⟨cj,?_,aS.trans bp⟩;simp only[nQ,dG,jm,and_true];unfold cut at ay⊢;split at ay<;>(repeat' split)<;>omega
 |_=>intro c h aN;exact⟨c,by simp[T.sizeO,T.ap,T.size,cut],iy.refl h.ru⟩
structure qd (V:List Int) (ph:Int→Option T) (ρ:Int→Int) (r:Int→Nat) (d:Nat) (c:bs):Prop where
 fin:te V ph ρ c
 col:∀z,r z<d→c.col z=0∨(c.col z=2∧c.sz z=cut (gK ph ρ r z).size)
structure mJ (ph:Int→Option T) (ρ:Int→Int) (r:Int→Nat) (d:Nat) (c cl:bs):Prop where
 full:cl.full=c.full
 hi:∀z,d≤r z→cl.col z=c.col z∧cl.sz z=c.sz z
 lo:∀z,c.col z=2→cl.col z=2∧cl.sz z=c.sz z
theorem mJ.refl{c:bs}{d:Nat}:mJ ph ρ r d c c:=⟨rfl,fun _ _=>⟨rfl,rfl⟩,fun _ h=>⟨h,rfl⟩⟩
theorem mJ.trans{a b c:bs}{d:Nat}(h:mJ ph ρ r d a b)(k:mJ ph ρ r d b c):mJ ph ρ r d a c:=⟨k.full.trans h.full,fun z br=>⟨(k.hi z br).1.trans (h.hi z br).1,(k.hi z br).2.trans (h.hi z br).2⟩,fun z br=>⟨(k.lo z (h.lo z br).1).1,(k.lo z (h.lo z br).1).2.trans (h.lo z br).2⟩⟩
theorem mJ.mono{a b:bs}{d b8:Nat}(aQ:d≤b8)(h:mJ ph ρ r d a b):mJ ph ρ r b8 a b:=⟨h.full,fun z br=>h.hi z (by omega),h.lo⟩
theorem mJ.sm{c cl:bs}{d:Nat}(k:iy ρ c cl):mJ ph ρ r d c cl:=by
 have ak:∀z,cl.col z=c.col z:=fun z=>by rw[k.eq];rfl
 have aB:∀z,cl.sz z=c.sz z:=fun z=>by rw[k.eq];rfl
 exact⟨k.rest.2.2,fun z _=>⟨ak z,aB z⟩,fun z h=>⟨by rw[ak];exact h,aB z⟩⟩
theorem qd.sm{c cl:bs}{d:Nat}(h:qd V ph ρ r d c)(k:iy ρ c cl):qd V ph ρ r d cl:=by
 have ak:∀z,cl.col z=c.col z:=fun z=>by rw[k.eq];rfl
 have aB:∀z,cl.sz z=c.sz z:=fun z=>by rw[k.eq];rfl
 exact⟨h.fin.sm k,fun z br=>by rw[ak,aB];exact h.col z br⟩
theorem amQ(gx:nW V ph)(eW:∀v,ρ (ρ v)=ρ v)(aL:∀z u,iO ph ρ z u→r u<r z)(d:Nat):∀(x:Int) (c:bs),r x<d→ρ x=x→x∈V→qd V ph ρ r d c→
  ∃N cl,(∀n,N≤n→p3 n x c=some (true,cl))∧qd V ph ρ r d cl∧mJ ph ρ r (r x+1) c cl∧cl.col x=2∧cl.sz x=cut (gK ph ρ r x).size:=by
 induction d using Nat.strongRecOn with
 |ind d bS=>
 intro x c aQ ab j1 hw;rcases hw.col x aQ with bB|⟨U,ao⟩;rotate_left
 ·refine⟨1,c,fun n aw=>?_,hw,mJ.refl,U,ao⟩;obtain⟨n',rfl⟩:∃n',n=n'+1:=⟨n-1,by omega⟩;simp only[p3,if_pos U]
 have wW:∀z,(c.grey x).col z=if z=x then 1 else c.col z:=fun z=>by simp only[bs.grey,bs.col,ni];split<;>rfl
 have Bq:∀z,(c.grey x).sz z=if z=x then 1 else c.sz z:=fun z=>by simp only[bs.grey,bs.sz,ni];split<;>rfl
 have yS:te V ph ρ (c.grey x):=⟨hw.fin.ru,hw.fin.keys,hw.fin.ph⟩;have afb:qd V ph ρ r (r x) (c.grey x):=⟨yS,fun z br=>by
  have cF:z≠x:=fun e=>by subst e;omega
  rw[wW,Bq,if_neg cF,if_neg cF];exact hw.col z (by omega)⟩
 have BN:¬c.col x=2:=by omega
 have ri:¬c.col x=1:=by omega
 have fy:∀(e:bs) (z:Int),(e.black x).col z=(if z=x then 2 else e.col z):=fun e z=>by simp only[bs.black,bs.col,ni];split<;>rfl
 by_cases ag:(c.grey x).shd x=false
 ·have ji:ph x=none:=by rw[←yS.ph];exact z1 ag
  have a1:gK ph ρ r x= .var x:=by rw[Bp (by rw[ab];exact ji),ab]
  have ef:∀z,((c.grey x).black x).sz z=if z=x then 1 else c.sz z:=Bq
  refine⟨1,(c.grey x).black x,fun n aw=>?_,⟨⟨yS.ru,yS.keys,yS.ph⟩,fun z br=>?_⟩,⟨rfl,fun z br=>?_,fun z br=>?_⟩,?_,?_⟩
  ·obtain⟨n',rfl⟩:∃n',n=n'+1:=⟨n-1,by omega⟩;simp only[p3,if_neg BN,if_neg ri,if_pos ag]
  ·rw[fy,ef,wW];by_cases e:z=x
   ·subst e;simp only[if_true,a1];exact .inr ⟨trivial,by simp[T.size,cut]⟩
   ·simp only[if_neg e];exact hw.col z br
  ·have e:z≠x:=fun e=>by subst e;omega
   rw[fy,ef,wW];simp only[if_neg e];exact⟨trivial,trivial⟩
  ·have e:z≠x:=fun e=>by subst e;omega
   rw[fy,ef,wW];simp only[if_neg e];exact⟨br,trivial⟩
  ·rw[fy,if_pos rfl]
  ·rw[ef,if_pos rfl,a1];simp[T.size,cut]
 ·have ji:ph x=some ((c.grey x).shp x):=by rw[←yS.ph];exact z6 ag
  obtain⟨g1,g2,g3⟩:=gx _ _ ji;have ad2:∀(t:T) (e:bs),(∀w,t.occ w=true→((c.grey x).shp x).occ w=true)→qd V ph ρ r (r x) e→∃N fL,(∀n,N≤n→t.foldO (yf (p3 n)) (e,true)=some (fL,true))∧qd V ph ρ r (r x) fL∧mJ ph ρ r (r x) e fL∧∀w,t.occ w=true→fL.col (ρ w)=2∧fL.sz (ρ w)=cut (gK ph ρ r w).size:=by
   intro t;induction t with
   |var v=>intro e mW he;have aK:=g2 v (mW v (by simp[T.occ]));have vn:r (ρ v)<r x:=aL x (ρ v) ⟨ab,_,v,ji,mW v (by simp[T.occ]),rfl⟩;obtain⟨ak,a6,aS⟩:=sU he.fin.ru (by rw[he.fin.keys];exact aK:v∈cp e.up);obtain⟨N,aB,bz,du,dq,cj,s2⟩:=bS (r x) aQ (ρ v) ak vn (eW v) (by rw[←he.fin.keys];exact(he.fin.ru.mem (by rw[he.fin.keys];exact aK)).1) (he.sm aS);refine⟨N,aB,fun n aw=>by simp[T.foldO,yf,a6,bz n aw],du,(mJ.sm aS).trans (dq.mono (by omega)),fun w hw=>?_⟩;simp[T.occ]at hw;subst hw;exact⟨cj,by rw[s2,←yT eW]⟩
   |pair a b dQ dR=>
    intro e mW he;obtain⟨hA,ak,a6,eI,cN,s1⟩:=dQ e (fun w hw=>mW w (by simp[T.occ,hw])) he;obtain⟨iQ,aB,bz,du,dq,s2⟩:=dR ak (fun w hw=>mW w (by simp[T.occ,hw])) eI;refine⟨max hA iQ,aB,fun n aw=>by simp only[T.foldO];rw[a6 n (by omega)];exact bz n (by omega),du,cN.trans dq,fun w hw=>?_⟩;simp only[T.occ,mB]at hw;rcases hw with hw|hw
    ·obtain⟨kP,z2⟩:=s1 w hw;exact⟨(dq.lo _ kP).1,by rw[(dq.lo _ kP).2];exact z2⟩
    ·exact s2 w hw
   |_=>intro e _ he;exact⟨0,e,fun n _=>rfl,he,mJ.refl,fun w hw=>by simp[T.occ]at hw⟩
  obtain⟨N,e,a6,eI,cN,s1⟩:=ad2 ((c.grey x).shp x) (c.grey x) (fun w h=>h) afb;have aeW:e.shp x=(c.grey x).shp x:=by
   have J:e.ph x=some ((c.grey x).shp x):=by rw[eI.fin.ph];exact ji
   unfold bs.ph at J;split at J
   ·exact fh J
   ·cases J
  obtain⟨aB,bz,bp⟩:=akF (V:=V) (ph:=ph) (ρ:=ρ) (gK ph ρ r) ((c.grey x).shp x) e eI.fin (fun w hw=>⟨g2 w hw,(s1 w hw).2⟩);have lX:gK ph ρ r x=((c.grey x).shp x).ap (gK ph ρ r):=yU eW aL (by rw[ab];exact ji);have EW:=cN.trans (mJ.sm (ph:=ph) (r:=r) (d:=r x) bp);have du:=eI.sm bp;let bf:bs:={aB with size:=eU x (cut (gK ph ρ r x).size) aB.size}.black x
  have da:∀z,bf.col z=if z=x then 2 else aB.col z:=fun z=>fy _ z
  have s3:∀z,bf.sz z=if z=x then cut (gK ph ρ r x).size else aB.sz z:=fun z=>by show(c1 z (eU x _ aB.size)).getD 0=_;rw[ni];split<;>rfl
  refine⟨N+1,bf,fun n aw=>?_,⟨⟨du.fin.ru,du.fin.keys,du.fin.ph⟩,fun z br=>?_⟩,⟨EW.full,fun z br=>?_,fun z br=>?_⟩,by rw[da,if_pos rfl],by rw[s3,if_pos rfl]⟩
  ·obtain⟨n',rfl⟩:∃n',n=n'+1:=⟨n-1,by omega⟩;simp only[p3,if_neg BN,if_neg ri,if_neg ag,a6 n' (by omega),kS,Bool.true_eq_false,if_false,aeW,bz,nQ,lX,bf]
  ·rw[da,s3];by_cases nx:z=x
   ·subst nx;simp only[if_true];exact .inr ⟨trivial,trivial⟩
   ·simp only[if_neg nx];by_cases bC:r z<r x
    ·exact du.col z bC
    ·obtain⟨bD,a2⟩:=EW.hi z (by omega);rw[bD,a2,wW,Bq,if_neg nx,if_neg nx];exact hw.col z br
  ·have nx:z≠x:=fun e=>by subst e;omega
   obtain⟨bD,a2⟩:=EW.hi z (by omega);rw[da,s3,if_neg nx,if_neg nx,bD,a2,wW,Bq,if_neg nx,if_neg nx];exact⟨rfl,rfl⟩
  ·have nx:z≠x:=fun e=>by subst e;omega
   obtain⟨bD,a2⟩:=EW.lo z (by rw[wW,if_neg nx];exact br);rw[da,s3,if_neg nx,if_neg nx,bD,a2,Bq,if_neg nx];exact⟨rfl,rfl⟩
structure qS (V:List Int) (ph:Int→Option T) (ρ:Int→Int) (r:Int→Nat) (c:bs):Prop where
 fin:te V ph ρ c
 full:∀x t,c1 x c.full=some t→t=gK ph ρ r x
theorem qS.sm{c cl:bs}(h:qS V ph ρ r c)(k:iy ρ c cl):qS V ph ρ r cl:=⟨h.fin.sm k,by rw[k.rest.2.2];exact h.full⟩
theorem amO(gx:nW V ph)(eW:∀v,ρ (ρ v)=ρ v)(aL:∀z u,iO ph ρ z u→r u<r z)(d:Nat):∀(x:Int) (c:bs),r x<d→ρ x=x→x∈V→qS V ph ρ r c→
  ∃N cl,(∀n,N≤n→p2 n x c=some (gK ph ρ r x,cl))∧qS V ph ρ r cl:=by
 induction d with
 |zero=>intro x c h;omega
 |succ d bS=>
 intro x c aQ ab j1 aK;cases aI:c1 x c.full with
 |some t=>refine⟨1,c,fun n aw=>?_,aK⟩;obtain⟨n',rfl⟩:∃n',n=n'+1:=⟨n-1,by omega⟩;simp only[p2,aI,aK.full x t aI]
 |none=>
  have Sv:∀(e:bs),qS V ph ρ r e→qS V ph ρ r {e with full:=eU x (gK ph ρ r x) e.full}:=fun e he=>⟨⟨he.fin.ru,he.fin.keys,he.fin.ph⟩,fun z t br=>by
   have rs:c1 z (eU x (gK ph ρ r x) e.full)=some t:=br;rw[ni]at rs;split at rs
   ·rename_i e;subst e;cases rs;rfl
   ·exact he.full z t rs⟩
  by_cases ag:c.shd x=false
  ·have ji:ph x=none:=by rw[←aK.fin.ph];exact z1 ag
   have a1:gK ph ρ r x= .var x:=by rw[Bp (by rw[ab];exact ji),ab]
   refine⟨1,_,fun n aw=>?_,Sv c aK⟩;obtain⟨n',rfl⟩:∃n',n=n'+1:=⟨n-1,by omega⟩;simp only[p2,aI,if_pos ag,a1]
  ·have ji:ph x=some (c.shp x):=by rw[←aK.fin.ph];exact z6 ag
   obtain⟨g1,g2,g3⟩:=gx _ _ ji;have aet:∀(t:T) (e:bs),(∀w,t.occ w=true→(c.shp x).occ w=true)→qS V ph ρ r e→∃N fL,(∀n,N≤n→t.mapO (AI (p2 n)) e=some (t.ap (gK ph ρ r),fL))∧qS V ph ρ r fL:=by
    intro t;induction t with
    |var v=>intro e mW he;have vr:=g2 v (mW v (by simp[T.occ]));have vn:r (ρ v)<r x:=aL x (ρ v) ⟨ab,_,v,ji,mW v (by simp[T.occ]),rfl⟩;obtain⟨ak,a6,aS⟩:=sU he.fin.ru (by rw[he.fin.keys];exact vr:v∈cp e.up);obtain⟨N,aB,bz,du⟩:=bS (ρ v) ak (by omega) (eW v) (by rw[←he.fin.keys];exact(he.fin.ru.mem (by rw[he.fin.keys];exact vr)).1) (he.sm aS);exact⟨N,aB,fun n aw=>by simp only[T.mapO,AI,a6,kS,bz n aw,T.ap];rw[←yT eW],du⟩
    |pair a b dQ dR=>intro e mW he;obtain⟨hA,ak,a6,eI⟩:=dQ e (fun w hw=>mW w (by simp[T.occ,hw])) he;obtain⟨iQ,aB,bz,du⟩:=dR ak (fun w hw=>mW w (by simp[T.occ,hw])) eI;exact⟨max hA iQ,aB,fun n aw=>by simp only[T.mapO,a6 n (by omega),kS,bz n (by omega),nQ,T.ap],du⟩
    |_=>intro e _ he;exact⟨0,e,fun n _=>rfl,he⟩
   obtain⟨N,e,a6,eI⟩:=aet (c.shp x) c (fun w h=>h) aK;have lX:gK ph ρ r x=(c.shp x).ap (gK ph ρ r):=yU eW aL (by rw[ab];exact ji);refine⟨N+1,_,fun n aw=>?_,Sv e eI⟩;obtain⟨n',rfl⟩:∃n',n=n'+1:=⟨n-1,by omega⟩;simp only[p2,aI,if_neg ag,a6 n' (by omega),nQ,lX]
def nu(ph:Int→Option T)(ρ:Int→Int)(v:Int):Bool:= !(decide (ρ v=v)&&(ph v).isNone)
theorem akI(gx:nW V ph)(eW:∀v,ρ (ρ v)=ρ v)(aL:∀z u,iO ph ρ z u→r u<r z)(jv:∀v∈V,ρ v∈V):∀(ba:List Int) (c:bs) (out:List Int),(∀v∈ba,v∈V)→(∀d,qd V ph ρ r d c)→out.length≤400→(∀v∈out,(gK ph ρ r v).size≤5000)→
  ∃N cl o,(∀n,N≤n→rM n ba c out=some (o,cl))∧te V ph ρ cl∧cl.full=c.full∧(∀l,o=some l→l=out++ba.filter (nu ph ρ)∧l.length≤400∧∀v∈l,(gK ph ρ r v).size≤5000)∧(o=none→¬((out++ba.filter (nu ph ρ)).length≤400∧∀v∈out++ba.filter (nu ph ρ),(gK ph ρ r v).size≤5000)):=by
 intro ba;induction ba with
 |nil=>intro c out _ hw J U;exact⟨0,c,some out,fun n _=>rfl,(hw 0).fin,rfl,fun l e=>by cases e;simp;exact⟨J,U⟩,fun e=>by cases e⟩
 |cons v ba bS=>
  intro c out aK hw J U;have vr:=aK v (by simp);obtain⟨bH,a6,aS⟩:=sU (hw 0).fin.ru (by rw[(hw 0).fin.keys];exact vr:v∈cp c.up);have E5:∀d,qd V ph ρ r d bH:=fun d=>(hw d).sm aS;obtain⟨hA,cj,bz,du,dq,aB,s2⟩:=amQ gx eW aL (r (ρ v)+1) (ρ v) bH (by omega) (eW v) (jv v vr) (E5 _);have oo:∀d,qd V ph ρ r d cj:=fun d=>⟨du.fin,fun z br=>by
   by_cases bC:r z<r (ρ v)+1
   ·exact du.col z bC
   ·obtain⟨bD,a2⟩:=dq.hi z (by omega);rw[bD,a2];exact(E5 d).col z br⟩
  have Jr:cj.full=c.full:=dq.full.trans aS.rest.2.2;have SC:(cj.shd (ρ v)=false)=((ph (ρ v)).isNone=true):=by rw[←du.fin.ph];unfold bs.ph;cases cj.shd (ρ v)<;>simp
  have jx:∀n,hA≤n→rM n (v::ba) c out=(if ρ v=v∧cj.shd (ρ v)=false then rM n ba cj out else if 5000<cj.sz (ρ v)∨400<out.length+1 then some (none,cj)else rM n ba cj (out++[v])):=fun n aw=>by simp only[rM,a6,kS,bz n aw,Bool.true_eq_false,if_false]
  have RZ:gK ph ρ r (ρ v)=gK ph ρ r v:=(yT eW v).symm;by_cases ay:ρ v=v∧cj.shd (ρ v)=false
  ·have ae:nu ph ρ v=false:=by have ao:=ay.2;rw[SC]at ao;rw[ay.1]at ao;simp[nu,ay.1,ao]
   obtain⟨iQ,da,o,bU,f3,p1,Hf,iX⟩:=bS cj out (fun w hw=>aK w (by simp[hw])) oo J U;refine⟨max hA iQ,da,o,fun n aw=>by rw[jx n (by omega),if_pos ay];exact bU n (by omega),f3,p1.trans Jr,?_,?_⟩
   ·simp only[List.filter_cons,ae,gP,if_false];exact Hf
   ·simp only[List.filter_cons,ae,gP,if_false];exact iX
  ·have ae:nu ph ρ v=true:=by
    cases e:nu ph ρ v with
    |true=>rfl
    |false=>simp only[nu,Bool.not_eq_false',cz,fE]at e;exact absurd ⟨e.1,by rw[SC,e.1];exact e.2⟩ ay
   by_cases au:5000<cj.sz (ρ v)∨400<out.length+1
   ·refine⟨hA,cj,none,fun n aw=>by rw[jx n aw,if_neg ay,if_pos au],du.fin,Jr,(fun l e=>by cases e),fun _=>?_⟩;simp only[List.filter_cons,ae,if_true];rintro⟨bD,a2⟩;rcases au with au|au
    ·rw[s2,RZ]at au;have:=a2 v (by simp);unfold cut at au;split at au<;>omega
    ·simp at bD;omega
   ·have br:(gK ph ρ r v).size≤5000:=by have:¬5000<cj.sz (ρ v):=fun h=>au (.inl h);rw[s2,RZ]at this;unfold cut at this;split at this<;>omega
    obtain⟨iQ,da,o,bU,f3,p1,Hf,iX⟩:=bS cj (out++[v]) (fun w hw=>aK w (by simp[hw])) oo (by simp;omega) (fun w hw=>by
     rcases jU.1 hw with hw|hw
     ·exact U w hw
     ·simp at hw;subst hw;exact br)
    refine⟨max hA iQ,da,o,fun n aw=>by rw[jx n (by omega),if_neg ay,if_neg au];exact bU n (by omega),f3,p1.trans Jr,?_,?_⟩
    ·simp only[List.filter_cons,ae,if_true];simpa using Hf
    ·simp only[List.filter_cons,ae,if_true];simpa using iX
theorem akJ(gx:nW V ph)(eW:∀v,ρ (ρ v)=ρ v)(aL:∀z u,iO ph ρ z u→r u<r z)(jv:∀v∈V,ρ v∈V):∀(ba:List Int) (c:bs),(∀v∈ba,v∈V)→qS V ph ρ r c→∃N cl,∀n,N≤n→x5 n ba c=some (ba.map fun v=>⟨v,gK ph ρ r v⟩,cl):=by
 intro ba;induction ba with
 |nil=>intro c _ _;exact⟨0,c,fun n _=>rfl⟩
 |cons v ba bS=>intro c aK hw;have vr:=aK v (by simp);obtain⟨bH,a6,aS⟩:=sU hw.fin.ru (by rw[hw.fin.keys];exact vr:v∈cp c.up);obtain⟨hA,cj,bz,du⟩:=amO gx eW aL (r (ρ v)+1) (ρ v) bH (by omega) (eW v) (jv v vr) (hw.sm aS);obtain⟨iQ,da,bU⟩:=bS cj (fun w hw=>aK w (by simp[hw])) du;refine⟨max hA iQ,da,fun n aw=>?_⟩;simp only[x5,a6,kS,bz n (by omega),bU n (by omega),nQ,gG];rw[←yT eW]
end
end Go.Pv
namespace Go.Pv
open Go
def bs.new:bs:=⟨[],[],[],[],[],[]⟩
def qJ(l:List Int):List Int:=l.mergeSort fun x y=>decide (x≤y)
def Av(n:Nat)(E:List (T×T)):Option (Option (List ar)):=(pE n E bs.new).bind fun p=>if p.1=false then some none else C8 n (qJ (cp p.2.up)) p.2
theorem Db(l:List Int):(qJ l).Perm l:=List.mergeSort_perm l _
theorem akX{l:List Int}(h:l.Nodup):(qJ l).Pairwise (· < ·):=by have J:(qJ l).Pairwise fun x y=>decide (x≤y)=true:=List.pairwise_mergeSort (fun a b c=>by simp;omega) (fun a b=>by simp;omega) l;have U:(qJ l).Pairwise (· ≠ ·):=List.nodup_iff_pairwise_ne.1 ((Db l).nodup_iff.2 h);exact(J.and U).imp fun h=>by simp at h;omega
structure XS (c:bs) (ρ:Int→Int) (cl:bs) (Uq:Int→Prop):Prop where
 inv:lK cl ρ
 ph:cl.ph=c.ph
 nd:(cp cl.up).Nodup
 sub:∀v∈cp c.up,v∈cp cl.up
 occ:∀v,Uq v→v∈cp cl.up
 rest:cl.color=c.color∧cl.size=c.size∧cl.full=c.full
 new:∀v∈cp cl.up,v∈cp c.up∨Uq v
theorem T2{ρ:Int→Int}(t:T):∀(c:bs),lK c ρ→(cp c.up).Nodup→(∀v,t.occ v=true→0≤v)→∃cl,zG t c=some cl∧XS c ρ cl fun v=>t.occ v=true:=by
 unfold zG;induction t with
 |var v=>
  intro c hi aw bB;by_cases aK:v∈cp c.up
  ·obtain⟨bH,a6,aS⟩:=sU hi.ru aK;refine⟨bH,by simp[T.foldO,a6],hi.sm aS,aS.ph,by rw[aS.keys];exact aw,fun w hw=>by rw[aS.keys];exact hw,fun w hw=>?_,aS.rest,fun w hw=>.inl (by rw[aS.keys]at hw;exact hw)⟩;simp[T.occ]at hw;subst hw;rw[aS.keys];exact aK
  ·obtain⟨a6,bz,bU⟩:=akm hi.ru (bB v (by simp[T.occ])) aK;refine⟨{c with up:=eU v v c.up},by simp only[T.foldO,a6,nQ],⟨bz,?_,hi.sat⟩,rfl,?_,fun w hw=>by rw[bU];simp[hw],fun w hw=>?_,⟨rfl,rfl,rfl⟩,fun w hw=>?_⟩
   ·intro x u ab;obtain⟨bD,a2,a3⟩:=hi.sh x u ab;refine⟨bD,fun w hw=>?_,?_⟩
    ·show w∈cp (eU v v c.up);rw[bU];simp[a2 w hw]
    ·show x∈cp (eU v v c.up);rw[bU];simp[a3]
   ·rw[bU];rw[List.nodup_append];exact⟨aw,by simp,fun a bE b ae e=>by simp at ae;subst ae;subst e;exact aK bE⟩
   ·simp[T.occ]at hw;subst hw;rw[bU];simp
   ·rw[bU]at hw;simp at hw;rcases hw with hw|rfl;exact .inl hw;exact .inr (by simp[T.occ])
 |pair a b dQ dR=>
  intro c hi aw bB;obtain⟨bH,a6,m1⟩:=dQ c hi aw fun v aK=>bB v (by simp[T.occ,aK]);obtain⟨cj,bz,m2⟩:=dR bH m1.inv m1.nd fun v aK=>bB v (by simp[T.occ,aK]);refine⟨cj,by simp only[T.foldO,a6,kS,bz],m2.inv,m2.ph.trans m1.ph,m2.nd,fun v aK=>m2.sub v (m1.sub v aK),fun v aK=>?_,?_,fun v aK=>?_⟩
  ·simp only[T.occ,mB]at aK;rcases aK with aK|aK
   ·exact m2.sub v (m1.occ v aK)
   ·exact m2.occ v aK
  ·rw[m2.rest.1,m2.rest.2.1,m2.rest.2.2];exact m1.rest
  ·rcases m2.new v aK with h|h
   ·rcases m1.new v h with h|h
    ·exact .inl h
    ·exact .inr (by simp[T.occ,h])
   ·exact .inr (by simp[T.occ,h])
 |_=>intro c hi aw bB;exact⟨c,rfl,hi,rfl,aw,fun v aK=>aK,fun v aK=>by simp[T.occ]at aK,⟨rfl,rfl,rfl⟩,fun v aK=>.inl aK⟩
def KV(E:List (T×T)):Prop:= ∀e∈E,∀v,(e.1.occ v=true∨e.2.occ v=true)→0≤v
theorem Bb:∀(E:List (T×T)) (c:bs) (ρ:Int→Int),lK c ρ→(cp c.up).Nodup→KV E→∃N o,(∀n,N≤n→pE n E c=some o)∧((o.2.color=c.color∧o.2.size=c.size∧o.2.full=c.full)∧∀v∈cp o.2.up,v∈cp c.up∨ ∃e∈E,e.1.occ v=true∨e.2.occ v=true)∧(o.1=true→∃ρ',lK o.2 ρ'∧(cp o.2.up).Nodup∧∀aO,jX o.2.ph ρ' aO↔jX c.ph ρ aO∧js E aO)∧(o.1=false→∀aO,jX c.ph ρ aO→¬js E aO):=by
 intro E;induction E with
 |nil=>intro c ρ hi aw _;exact⟨0,(true,c),fun n _=>rfl,⟨⟨rfl,rfl,rfl⟩,fun v aK=>.inl aK⟩,fun _=>⟨ρ,hi,aw,fun aO=>⟨fun h=>⟨h,Da aO⟩,fun h=>h.1⟩⟩,fun e=>by cases e⟩
 |cons e E bS=>
  intro c ρ hi aw bB;obtain⟨bH,a6,m1⟩:=T2 e.1 c hi aw fun v aK=>bB e (by simp) v (.inl aK);obtain⟨cj,bz,m2⟩:=T2 e.2 bH m1.inv m1.nd fun v aK=>bB e (by simp) v (.inr aK);obtain⟨kQ,tT⟩:=m2.inv.sat
  obtain⟨hA,gy,bU,iJ⟩:=ZA _ _ cj ρ e.1 e.2 kQ m2.inv tT (fun w hw=>m2.sub w (m1.occ w hw)) (fun w hw=>m2.occ w hw) rfl rfl;have ji:cj.ph=c.ph:=m2.ph.trans m1.ph;have mj:gy.2.color=c.color∧gy.2.size=c.size∧gy.2.full=c.full:=by rw[iJ.rest.1,iJ.rest.2.1,iJ.rest.2.2,m2.rest.1,m2.rest.2.1,m2.rest.2.2];exact m1.rest
  have EP:∀v∈cp gy.2.up,v∈cp c.up∨e.1.occ v=true∨e.2.occ v=true:=fun v aK=>by
   rw[iJ.keys]at aK;rcases m2.new v aK with h|h
   ·rcases m1.new v h with h|h
    ·exact .inl h
    ·exact .inr (.inl h)
   ·exact .inr (.inr h)
  obtain⟨f,da⟩:=gy;cases f with
  |false=>refine⟨hA,(false,da),fun n aw=>?_,⟨mj,fun v aK=>(EP v aK).imp id fun h=>⟨e,by simp,h⟩⟩,(fun e=>by cases e),fun _ aO ag he=>iJ.no rfl aO (by rw[ji];exact ag) (qH.1 he).1⟩;simp only[pE,a6,bz,kS,bU n aw,gP,if_false]
  |true=>
   obtain⟨k9,bD,a2,_⟩:=iJ.yes rfl;simp only at bD a2;obtain⟨iQ,gv,cc,b4,fH,nX⟩:=bS da k9 bD (by have:=iJ.keys;simp only at this;rw[this];exact m2.nd) fun fL he=>bB fL (by simp[he]);refine⟨max hA iQ,gv,fun n aw=>?_,?_,fun aI=>?_,fun aI aO ag he=>?_⟩
   ·simp only[pE,a6,bz,kS,bU n (by omega),if_true];exact cc n (by omega)
   ·refine⟨by rw[b4.1.1,b4.1.2.1,b4.1.2.2];exact mj,fun v aK=>?_⟩;rcases b4.2 v aK with h|⟨fL,J,U⟩
    ·exact(EP v h).imp id fun h=>⟨e,by simp,h⟩
    ·exact .inr ⟨fL,by simp[J],U⟩
   ·obtain⟨ρ2,d1,d2,d3⟩:=fH aI;exact⟨ρ2,d1,d2,fun aO=>by rw[d3 aO,a2 aO,ji,qH,and_assoc]⟩
   ·exact nX aI aO ((a2 aO).2 ⟨by rw[ji];exact ag,(qH.1 he).1⟩) (qH.1 he).2
theorem DJ{ph:Int→Option T}{ρ:Int→Int}{v:Int}:nu ph ρ v=false↔ρ v=v∧ph v=none:=by simp[nu]
theorem Rx{ph:Int→Option T}{ρ:Int→Int}{r:Int→Nat}(eW:∀v,ρ (ρ v)=ρ v):∀(n:Nat) (v w:Int),(mL ph ρ n v).occ w=true→(∀z u,iO ph ρ z u→r u<r z)→r (ρ v)<n→ρ w=w∧ph w=none
 |0,v,w,_,_,h=>by omega
 |n+1,v,w,h,aL,aw=>by
  simp only[mL]at h;cases e:ph (ρ v)with
  |none=>rw[e]at h;simp[T.occ]at h;subst h;exact⟨eW v,e⟩
  |some t=>rw[e]at h;obtain⟨u,J,U⟩:=CA.1 h;have:=aL (ρ v) (ρ u) ⟨eW v,t,u,e,J,rfl⟩;exact Rx eW n u w U aL (by omega)
section
variable {V:List Int} {ph:Int→Option T} {ρ:Int→Int} {r:Int→Nat}
def sV(ph:Int→Option T)(ρ:Int→Int)(r:Int→Nat)(V:List Int):List ar:=((qJ V).filter (nu ph ρ)).map fun v=>⟨v,gK ph ρ r v⟩
theorem Mg(aw:V.Nodup):iv (sV ph ρ r V):=by unfold sV;rw[iv,List.pairwise_map];exact((akX aw).filter _)
theorem Wk(aw:V.Nodup)(gx:nW V ph)(dj:∀v,v∉V→ρ v=v)(v:Int):di (sV ph ρ r V) v=if nu ph ρ v then some (gK ph ρ r v)else none:=by
 by_cases ae:nu ph ρ v=true
 ·rw[if_pos ae];have aK:v∈V:=by
   refine Classical.byContradiction fun h=>?_;have J:=dj v h;have U:ph v=none:=by cases e:ph v with
    |none=>rfl
    |some t=>exact absurd (gx v t e).2.2 h
   rw[DJ.2 ⟨J,U⟩]at ae;cases ae
  have:(⟨v,gK ph ρ r v⟩:ar)∈sV ph ρ r V:=h8.2 ⟨v,mD.2 ⟨(Db V).mem_iff.2 aK,ae⟩,rfl⟩;exact tq (Mg aw) this
 ·rw[if_neg ae];refine uQ.2 fun b fR e=>?_;obtain⟨u,J,rfl⟩:=h8.1 fR;simp only at e;subst e;exact ae (mD.1 J).2
theorem akL(aw:V.Nodup)(gx:nW V ph)(dj:∀v,v∉V→ρ v=v)(eW:∀v,ρ (ρ v)=ρ v)(hle:∀v,ρ v≤v)(aL:∀z u,iO ph ρ z u→r u<r z):fG (sV ph ρ r V):=by
 refine⟨Mg aw,fun b ae w hw=>?_,fun b ae w hw=>?_⟩
 ·obtain⟨u,J,rfl⟩:=h8.1 ae;rw[Wk aw gx dj];have:=Rx eW _ u w hw aL (by omega);rw[DJ.2 this];rfl
 ·obtain⟨u,J,rfl⟩:=h8.1 ae;have o7:=(mD.1 J).2;simp only at hw⊢;cases e:ph (ρ u)with
  |none=>
   rw[Bp e]at hw;cases hw;have U:=hle u;have ao:ρ u≠u:=fun h=>by rw[DJ.2 ⟨h,by rw[h]at e;exact e⟩]at o7;cases o7
   omega
  |some t=>rw[yU eW aL e]at hw;have:=(gx _ _ e).1;cases t<;>simp[T.ap,T.kind]at hw this
theorem adq(eW:∀v,ρ (ρ v)=ρ v)(aL:∀z u,iO ph ρ z u→r u<r z)(aO:Int→T):jX ph ρ aO↔∀v,aO v=(gK ph ρ r v).ap aO:=by
 constructor
 ·intro h;have:∀(n:Nat) (v:Int),r (ρ v)<n→aO v=(gK ph ρ r v).ap aO:=by
   intro n;induction n with
   |zero=>intro v h;omega
   |succ n bS=>
    intro v aK;cases e:ph (ρ v)with
    |none=>rw[Bp e];exact h.1 v
    |some t=>rw[yU eW aL e,AV,h.1 v,h.2 _ t (eW v) e];refine tn fun w hw=>bS w ?_;have:=aL (ρ v) (ρ w) ⟨eW v,t,w,e,hw,rfl⟩;omega
  exact fun v=>this _ v (Nat.lt_succ_self _)
 ·intro h;refine⟨fun v=>by rw[h v,h (ρ v),←yT eW],fun x t ab aN=>?_⟩;rw[h x,yU eW aL (by rw[ab];exact aN),AV];exact tn fun w _=>(h w).symm
theorem akK(aw:V.Nodup)(gx:nW V ph)(dj:∀v,v∉V→ρ v=v)(eW:∀v,ρ (ρ v)=ρ v)(aL:∀z u,iO ph ρ z u→r u<r z)(aO:Int→T):gJ (sV ph ρ r V) aO↔jX ph ρ aO:=by
 rw[adq eW aL,akR (Mg aw)];refine forall_congr' fun v=>?_;rw[cA,Wk aw gx dj];cases e:nu ph ρ v with
 |true=>simp
 |false=>obtain⟨J,U⟩:=DJ.1 e;rw[Bp (by rw[J];exact U),J];simp
end
theorem akS(E:List (T×T))(bB:KV E):∃n o,Av n E=some o∧iz [] E o∧∀c,pE n E bs.new=some (true,c)→(cp c.up).Nodup∧(∀v∈cp c.up,∃e∈E,e.1.occ v=true∨e.2.occ v=true)∧c.size=[]:=by
 have hi:lK bs.new id:=⟨⟨fun v u h=>by simp[bs.new,c1]at h,fun v _=>rfl⟩,fun x t h=>by simp[bs.new,bs.ph,bs.shd,c1]at h,⟨.var,fun v=>rfl,fun x t _ h=>by simp[bs.new,bs.ph,bs.shd,c1]at h⟩⟩;have tH:∀aO,jX bs.new.ph id aO:=fun aO=>⟨fun v=>rfl,fun x t _ h=>by simp[bs.new,bs.ph,bs.shd,c1]at h⟩;obtain⟨hA,gy,a6,cN,dq,iJ⟩:=Bb E bs.new id hi (by simp[bs.new,cp]) bB;obtain⟨cN,UW⟩:=cN;obtain⟨f,c⟩:=gy;cases f with
 |false=>refine⟨hA,none,by simp[Av,a6 hA (eR _)],DF fun aO _ he=>iJ rfl aO (tH aO) he,fun c h=>?_⟩;rw[a6 hA (eR _)]at h;cases h
 |true=>
  obtain⟨ρ,bD,a2,a3⟩:=dq rfl;simp only at bD a2 a3 cN UW;have RU:∀n,hA≤n→∀cl,pE n E bs.new=some (true,cl)→(cp cl.up).Nodup∧(∀v∈cp cl.up,∃e∈E,e.1.occ v=true∨e.2.occ v=true)∧cl.size=[]:=fun n aw cl h=>by rw[a6 n aw]at h;cases h;exact⟨a2,fun v aK=>(UW v aK).resolve_left (by simp[bs.new,cp]),cN.2.1⟩
  obtain⟨r,aL⟩:=bD.rank;have eW:=bD.ru.idem;have jv:∀v∈cp c.up,ρ v∈cp c.up:=fun v aK=>(bD.ru.mem aK).1;have dx:te (cp c.up) c.ph ρ c:=⟨bD.ru,rfl,rfl⟩;have hw:∀d,qd (cp c.up) c.ph ρ r d c:=fun d=>⟨dx,fun z _=>.inl (by simp[bs.col,cN.1,bs.new,c1])⟩;obtain⟨iQ,cj,o,cc,b4,fH,nX,NJ⟩:=akI bD.sh eW aL jv (qJ (cp c.up)) c [] (fun v aK=>(Db _).mem_iff.1 aK) hw (by simp) (fun v aK=>by simp at aK);have dE:=akL (r:=r) a2 bD.sh bD.ru.no eW bD.ru.le aL;have kZ:∀aO,gJ (sV c.ph ρ r (cp c.up)) aO↔gJ [] aO∧js E aO:=fun aO=>by rw[akK a2 bD.sh bD.ru.no eW aL,a3 aO];exact⟨fun h=>⟨fun b ae=>by simp at ae,h.2⟩,fun h=>⟨tH aO,h.2⟩⟩
  have RW:ho (sV c.ph ρ r (cp c.up))↔(([]++(qJ (cp c.up)).filter (nu c.ph ρ)).length≤400∧∀v∈[]++(qJ (cp c.up)).filter (nu c.ph ρ),(gK c.ph ρ r v).size≤5000):=by unfold ho sV;simp only[List.length_map,bY,h8,forall_exists_index,and_imp,forall_apply_eq_imp_iff₂]
  cases o with
  |none=>refine⟨max hA iQ,none,by simp[Av,a6 (max hA iQ) (by omega),C8,cc (max hA iQ) (by omega)],?_,RU _ (by omega)⟩;exact fun ai J U ao=>NJ rfl (RW.1 (QY dE J (fun aO hh=>(kZ aO).2 (U aO hh)) ao))
  |some l=>
   obtain⟨ak,aB,bf⟩:=nX l rfl;have ae8:qS (cp c.up) c.ph ρ r cj:=⟨b4,fun x t h=>by rw[fH,cN.2.2]at h;simp[bs.new,c1]at h⟩;simp only[bY]at ak;obtain⟨yn,da,d1⟩:=akJ bD.sh eW aL jv l cj (fun v aK=>by rw[ak]at aK;exact(Db _).mem_iff.1 (mD.1 aK).1) ae8;refine⟨max (max hA iQ) yn,some (sV c.ph ρ r (cp c.up)),?_,⟨⟨dE,RW.2 ?_⟩,kZ⟩,RU _ (by omega)⟩
   ·simp only[Av,a6 (max (max hA iQ) yn) (by omega),kS,Bool.true_eq_false,if_false,C8,cc (max (max hA iQ) yn) (by omega),d1 (max (max hA iQ) yn) (by omega),nQ];rw[ak];rfl
   ·rw[bY,←ak];exact⟨aB,bf⟩
def hq(s:List ar):List (T×T):=s.map fun b=>(.var b.v,b.t)
theorem akQ{s:List ar}{aO:Int→T}:js (hq s) aO↔gJ s aO:=by simp[js,hq,gJ,T.ap]
theorem X2{s:List ar}{E:List (T×T)}{o:Option (List ar)}:iz [] (hq s++E) o↔iz s E o:=by
 have h:∀aO,(gJ [] aO∧js (hq s++E) aO)↔(gJ s aO∧js E aO):=fun aO=>by rw[C9,akQ];exact⟨fun h=>h.2,fun h=>⟨fun b ae=>by simp at ae,h⟩⟩
 exact⟨AT h,AT fun aO=>(h aO).symm⟩
end Go.Pv
namespace Go.Pv
open Go
open Classical in
noncomputable def mgu(s:List ar)(E:List (T×T)):Option (List ar):=if h:∃o,iz s E o then h.choose else none
theorem rD{s:List ar}{E:List (T×T)}{o:Option (List ar)}(h:iz s E o):mgu s E=o:=by have ab:∃o,iz s E o:=⟨o,h⟩;unfold mgu;rw[dif_pos ab];exact X3 ab.choose_spec h
def pZ(s:List ar):Prop:= ∀b∈s,(0≤b.v∧b.v≤100000)∧b.t.ok=true
theorem NC{aO:Int→T}{t:T}(aN:t.ok=true)(h:∀v,t.occ v=true→(aO v).ok=true):(t.ap aO).ok=true:=by
 induction t with
 |var n=>exact h n (by simp[T.occ])
 |pair a b dQ dR=>simp only[T.ok,cz]at aN;simp only[T.ap,T.ok,cz];exact⟨dQ aN.1 fun v aK=>h v (by simp[T.occ,aK]),dR aN.2 fun v aK=>h v (by simp[T.occ,aK])⟩
 |_=>exact aN
theorem wk{t:T}(aN:t.ok=true){v:Int}(h:t.occ v=true):0≤v∧v≤100000:=by
 induction t with
 |var n=>simp[T.occ]at h;subst h;simpa[T.ok]using aN
 |pair a b dQ dR=>
  simp only[T.ok,cz]at aN;simp only[T.occ,mB]at h;rcases h with h|h
  ·exact dQ aN.1 h
  ·exact dR aN.2 h
 |_=>simp[T.occ]at h
theorem GJ{s:List ar}(ag:pZ s){t:T}(aN:t.ok=true):(t.ap (cA s)).ok=true:=NC aN fun v aK=>by
 unfold cA;cases e:di s v with
 |none=>have:=wk aN aK;simpa[T.ok]using this
 |some x=>exact(ag _ (jY e)).2
theorem AY{s:List ar}(ag:pZ s){v:Int}{t:T}(aK:0≤v∧v≤100000)(aN:t.ok=true){ai:List ar}(h:nt s v t=some ai):pZ ai:=by
 unfold nt at h;split at h
 ·cases h;intro b ae;rcases pV.1 ae with rfl|⟨c,ay,rfl⟩
  ·exact⟨aK,GJ ag aN⟩
  ·refine⟨(ag c ay).1,NC (ag c ay).2 fun w hw=>?_⟩;unfold one;split
   ·exact GJ ag aN
   ·have:=wk (ag c ay).2 hw;simpa[T.ok]using this
 ·cases h
theorem Xt{s:List ar}(ag:pZ s){t:T}(aN:t.ok=true):(hb s t).ok=true:=by
 cases t with
 |var n=>have:=GJ ag aN;simpa[hb,T.ap]using this
 |_=>exact aN
theorem MD:∀(n:Nat) (s:List ar) (a b:T) (ai:List ar),pZ s→a.ok=true→b.ok=true→kx n s a b=some (some ai)→pZ ai
 |0,_,_,_,_,_,_,_,h=>by simp[kx]at h
 |n+1,s,a,b,ai,ag,bE,ae,h=>by
  have ab:=Xt ag bE;have aG:=Xt ag ae;simp only[kx]at h;generalize hb s a=x at h ab;generalize hb s b=y at h aG;have vs:∀{i:Int},(T.var i).ok=true→0≤i∧i≤100000:=fun h=>wk h (by simp[T.occ]);cases x with
  |var i=>
   cases y with
   |var j=>
    simp only[jS,dG]at h;split at h
    ·exact AY ag (vs aG) ab h
    ·split at h
     ·cases h;exact ag
     ·exact AY ag (vs ab) aG h
   |_=>simp only[jS,dG]at h;exact AY ag (vs ab) aG h
  |pair bD a2=>
   cases y with
   |var j=>simp only[jS,dG]at h;exact AY ag (vs aG) ab h
   |pair cc b4=>
    simp only[T.ok,cz]at ab aG;simp only[jS]at h;split at h
    ·cases h
    ·cases h
    ·rename_i s1 ak;exact MD n s1 a2 b4 ai (MD n s bD cc s1 ag ab.1 aG.1 ak) ab.2 aG.2 h
   |_=>simp[jS]at h
  |_=>
   cases y with
   |var j=>simp only[jS,dG]at h;exact AY ag (vs aG) ab h
   |_=>
    simp only[jS,dG]at h;split at h
    ·cases h;exact ag
    ·cases h
def nl:T→List Int
 | .var n=>[n]
 | .pair a b=>nl a++nl b
 |_=>[]
theorem xG{t:T}{v:Int}(h:t.occ v=true):v∈nl t:=by
 induction t with
 |var n=>simp[T.occ]at h;subst h;simp[nl]
 |pair a b dQ dR=>simp only[T.occ,mB]at h;simp only[nl,jU];exact h.imp dQ dR
 |_=>simp[T.occ]at h
theorem G0{s:List ar}(ag:fG s)(aI:ho s)(a b:T):∃n o,kx n s a b=some o∧iz s [(a,b)] o:=by obtain⟨n,o,J,U⟩:=WS (s.flatMap (fun b=>b.v::nl b.t)++nl a++nl b) _ _ s a b ag aI (fun c ay=>⟨by simp only[jU,List.mem_flatMap];exact .inl (.inl ⟨c,ay,by simp⟩),fun w hw=>by simp only[jU,List.mem_flatMap];exact .inl (.inl ⟨c,ay,by simp[xG hw]⟩)⟩) (fun w hw=>by simp[xG hw]) (fun w hw=>by simp[xG hw]) rfl rfl;exact⟨n,o,J,U.1⟩
theorem Nr{s:List ar}{e:T×T}{E:List (T×T)}{s1:List ar}(h:iz s [e] (some s1)){o:Option (List ar)}(U:iz s1 E o):iz s (e::E) o:=Nq (E:=[e]) h U
theorem FM{s:List ar}(ag:fG s)(aI:ho s)(E:List (T×T)):iz s E (mgu s E):=by
 induction E generalizing s with
 |nil=>rw[rD (Hu ag aI)];exact Hu ag aI
 |cons e E bS=>
  obtain⟨n,o,_,U⟩:=G0 ag aI e.1 e.2;cases o with
  |none=>have ao:iz s (e::E) none:=Ht E U;rw[rD ao];exact ao
  |some s1=>have ao:=Nr U (bS U.1.1 U.1.2);rw[rD ao];exact ao
theorem FL{s:List ar}(ag:fG s)(aI:ho s):mgu s []=some s:=rD (Hu ag aI)
theorem KL{s:List ar}(ag:fG s)(aI:ho s)(e:T×T)(E:List (T×T)):mgu s (e::E)=match mgu s [e]with|some s1=>mgu s1 E|none=>none:=by
 have J:=FM ag aI [e];cases h:mgu s [e]with
 |none=>rw[h]at J;have ao:iz s (e::E) none:=Ht E J;exact rD ao
 |some s1=>rw[h]at J;exact rD (Nr J (FM J.1.1 J.1.2 E))
theorem zH{s:List ar}(ag:fG s)(aI:ho s){E:List (T×T)}{ai:List ar}(h:mgu s E=some ai):fG ai∧ho ai:=by have J:=FM ag aI E;rw[h]at J;exact J.1
theorem agx{s:List ar}(ag:fG s)(aI:ho s)(av:pZ s){E:List (T×T)}(dw:∀e∈E,e.1.ok=true∧e.2.ok=true){ai:List ar}(h:mgu s E=some ai):pZ ai:=by
 induction E generalizing s with
 |nil=>rw[FL ag aI]at h;cases h;exact av
 |cons e E bS=>
  rw[KL ag aI]at h;split at h
  ·rename_i s1 J;obtain⟨n,o,U,ao⟩:=G0 ag aI e.1 e.2;have a8:=rD ao;rw[J]at a8;subst a8;exact bS ao.1.1 ao.1.2 (MD n s e.1 e.2 s1 av (dw e (by simp)).1 (dw e (by simp)).2 U) (fun fL he=>dw fL (by simp[he])) h
  ·cases h
theorem Tl{l:List Int}(aw:l.Nodup)(h:∀v∈l,0≤v∧v≤100000):l.length≤100001:=by
 have J:(l.map Int.toNat).Nodup:=by rw[List.nodup_iff_pairwise_ne,List.pairwise_map];exact am3 (fun{a b} bE ae cF e=>cF (by have:=h a bE;have:=h b ae;omega)) aw
 have:=M9 J (l₂:=List.range 100001) (fun x ab=>by obtain⟨v,aK,rfl⟩:=h8.1 ab;have:=h v aK;simp;omega)
 simpa using this
end Go.Pv
