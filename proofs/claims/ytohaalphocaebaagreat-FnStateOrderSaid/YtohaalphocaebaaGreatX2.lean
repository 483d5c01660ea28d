/- Classes of variables, as the program keeps them: what its functions compute, and what it means. -/
import Derived.Deep.LoopGhost
import Derived.Test.YtohaalphocaebaaGreatProg
import Derived.Test.YtohaalphocaebaaGreatX1
set_option linter.all false
set_option maxHeartbeats 4000000
open Array renaming getElem?_toList→tU
open BitVec renaming ofInt→lX
open Bool renaming and_eq_true→cx,false_eq_true→gC,not_eq_true'→rk,or_eq_true→lY
open Decidable renaming not_not→arU
open Go renaming Program→cA,TypeId→gL
open Go.IntKind renaming bits→nF,i64→mN,signed→rl,u64→ht,wrap→sB
open Go.IntWalk renaming i64_in→ml
open Go.Op renaming bytesLess→hB
open Go.Proofs.Tryz renaming prog→az
open Go.Region renaming wanted→oX
open Go.Result renaming andThen_ok→fQ
open Go.Sem renaming run_bind→fI,run_pure→gq
open Go.Value renaming cells→oY
open List renaming all_eq_true→ig,cons_append→bR,drop_eq_getElem_cons→k9,getElem?_eq_getElem→cb,getElem?_eq_none→qu,getElem?_eq_some_iff→fU,length_append→pJ,length_cons→oa,map_cons→gP,map_nil→mO,mem_append→iH,mem_cons→fA,mem_cons_of_mem→lA,mem_filter→ha,mem_map→hJ,mem_of_getElem?→fR,nil_append→bY,pairwise_cons→mP,pairwise_iff_getElem→pK
open List.Nodup renaming length_le_of_subset→Iq
open List.cons renaming injEq→y7
open Nat renaming le_refl→ff,le_trans→jR,strongRecOn→qw
open Ne renaming symm→la
open Option renaming bind_some→e6,getD_none→jq,getD_some→jr,isSome_iff_exists→fB,isSome_none→ja,map_eq_some_iff→gr,map_some→kN
open Option.some renaming inj→e3,injEq→dw
open Prod.mk renaming injEq→jB
open _root_ renaming False→ep,UInt8→cQ,beq_iff_eq→dK,congrArg→eU,decide_eq_false_iff_not→hK,decide_eq_true_eq→fo
namespace Go.Pv
open Go Go.RowKit
def ahJ(A:de)(s s':cI)(rm:Option aJ):Prop:=(∀k,(look k s'.b).isSome→(look k s.b).isSome∨rm=some k)∧(∀k,(look k s'.e).isSome→(look k s.e).isSome∨rm=some k)∧(∀k,(look k s.b).isSome→(look k s'.b).isSome)∧(∀k,(look k s.e).isSome→(look k s'.e).isSome)∧
 (∀k,rm=some k→(∃j,k= .obj j)∧A.F k∧A.b k=none∧A.e k=none∧((look k s'.b).isSome∨(look k s'.e).isSome))
def YI(P:cA)(n:Nat)(args:List ah)(A:de)(d:Option Nat)(x:kO):Prop:=
 ∃s s' r rm,(∀k cs,look k s.b=some cs→A.b k=some cs∧aN (inObs s) cs)∧(∀k o,look k s.e=some o→A.e k=some o∧ej (inObs s) o)∧iE s∧iE s'∧ahJ A s s' rm∧aN (inObs s) args∧
  bC P n args s (fun eg dF=>eg=r∧dF=s')∧x=⟨d,r,s'.b,s'.e,rm⟩
def YJ(P:cA)(n0 n:Nat)(args:List ah)(A:de)(d:Option Nat)(x:kO):Prop:=
 ∃cE r,d=some cE∧(A.F (.loc (n0+cE))∧A.b (.loc (n0+cE))=none∧A.e (.loc (n0+cE))=none)∧aN (fun _=>ep) args∧
  Is P n (n0+cE) args ⟨[],[]⟩ (fun eg dF=>eg=r∧dF=⟨[],[]⟩)∧x=⟨d,r,[],[],some (.loc (n0+cE))⟩
def yd:ah→Bool
 | .ptr (.loc _) _=>true
 | .eptr _=>true
 |_=>false
def fX.isB:fX→Bool
 | .loadB _ _ _=>true
 | .mgetB _ _ _ _ _=>true
 |_=>false
def fX.ptrOf(t:Nat→ah):fX→ah
 | .load _ _ x=>dy t x
 | .loadB _ _ x=>dy t x
 |_=>.junk
def er(P:cA)(q:Bool)(n0:Nat):ed→de→kO→Prop
 | .s (.v d i),A,x=> ∃c p,pI A.t A.b A.e i=some (c,p)∧c∧(i.isLoad=true→i.isB=true∨q=true∨yd (i.ptrOf A.t)=true)∧x=⟨some d,p,[],[],none⟩
 | .s (.box d none v),A,x=>(A.F (.loc (n0+d))∧A.b (.loc (n0+d))=none∧A.e (.loc (n0+d))=none)∧eL (dy A.t v)=true∧x=⟨some d,.ptr (.loc (n0+d)) 0,[(.loc (n0+d),cells (dy A.t v))],[],some (.loc (n0+d))⟩
 | .s (.alloc d none z),A,x=>(A.F (.loc (n0+d))∧A.b (.loc (n0+d))=none∧A.e (.loc (n0+d))=none)∧x=⟨some d,.ptr (.loc (n0+d)) 0,[(.loc (n0+d),cells z)],[],some (.loc (n0+d))⟩
 | .s (.store sz u v),A,x=> ∃k off cs,dy A.t u= .ptr k off∧A.b k=some cs∧(h2 cs=true∧eL (dy A.t v)=true∧(cells (dy A.t v)).length=sz∧off+sz≤cs.length)∧x=⟨none,.junk,[(k,nZ cs off (cells (dy A.t v)))],[],none⟩
 | .s (.bsl d sz el xs),A,x=>(A.F (.loc (n0+d))∧A.b (.loc (n0+d))=none∧A.e (.loc (n0+d))=none)∧sI sz (xs.map (dy A.t))∧x=⟨some d,.slice sz (.own (.loc (n0+d))) (xs.map (dy A.t)),[],[(.loc (n0+d),⟨xs.length,el,sz,none⟩)],some (.loc (n0+d))⟩
 | .s (.app d sz el u v),A,x=> ∃tag xs k3 ys,dy A.t u= .slice sz tag xs∧dy A.t v= .slice sz k3 ys∧
   ((∃k o,tag= .own k∧A.e k=some o∧(o.xs=none∧o.n=xs.length∧o.el=el∧o.sz=sz∧xs.length+ys.length≤lim)∧x=⟨some d,.slice sz (.own k) (xs++ys),[],[(k,⟨xs.length+ys.length,el,sz,none⟩)],none⟩)∨
    (tag= .nil∧ys.length≤lim∧(A.F (.loc (n0+d))∧A.b (.loc (n0+d))=none∧A.e (.loc (n0+d))=none)∧x=⟨some d,.slice sz (.own (.loc (n0+d))) ys,[],[(.loc (n0+d),⟨ys.length,el,sz,none⟩)],some (.loc (n0+d))⟩))
 | .s (.appm d _ sz el u v),A,x=> ∃k n xs k3 ys,dy A.t u= .row sz k n∧dy A.t v= .slice sz k3 ys∧A.e k=some ⟨n,el,sz,some xs⟩∧xs.length+ys.length≤lim∧x=⟨some d,.row sz k (xs.length+ys.length),[],[(k,⟨xs.length+ys.length,el,sz,some (xs++ys)⟩)],none⟩
 | .s (.storeE sz u v),A,x=> ∃k n i f el dC xs q,dy A.t u= .rptr dC k n i f∧A.e k=some ⟨n,el,dC,some xs⟩∧xs[i]? =some q∧(eL q=true∧eL (dy A.t v)=true∧(cells (dy A.t v)).length=sz∧f+sz≤(cells q).length∧0<sz)∧x=⟨none,.junk,[],[(k,⟨n,el,dC,some (xs.set i (pG q f (cells (dy A.t v))))⟩)],none⟩
 | .s (.mkmap d (some m)),A,x=>(A.F (.obj m)∧A.b (.obj m)=none∧A.e (.obj m)=none)∧x=⟨some d,.gmap (.obj m),[(.obj m,[.hdm 0 []])],[],some (.obj m)⟩
 | .s (.mput b7 u k v),A,x=> ∃m cs cs',dy A.t u= .gmap m∧A.b m=some cs∧oO b7 (dy A.t k) (dy A.t v) cs=some cs'∧x=⟨none,.junk,[(m,cs')],[],none⟩
 | .call d f xs,A,x=> ∃n dj,dy A.t f= .func n dj∧((YI P n (di (xs.map (dy A.t)++dj)) A d x∧(q=true→x.bw=[]∧x.ew=[]))∨YJ P n0 n (di (xs.map (dy A.t)++dj)) A d x)
 |_,_,_=>ep
inductive BJ where
 |v|l|n|s|w|a|c|m|r|k
 deriving DecidableEq
def ed.mode:ed→BJ
 | .s (.v _ (.loadB _ _ _))=>.m
 | .s (.v _ (.mgetB _ _ _ _ _))=>.m
 | .s (.v _ i)=>if i.isLoad then .l else .v
 | .s (.storeE _ _ _)=>.r
 | .s (.box _ _ _)=>.n
 | .s (.alloc _ _ _)=>.n
 | .s (.store _ _ _)=>.w
 | .s (.bsl _ _ _ _)=>.s
 | .s (.app _ _ _ _ _)=>.a
 | .s (.bslm _ _ _ _ _)=>.w
 | .s (.mks _ _ _ _ _ _)=>.w
 | .s (.appm _ _ _ _ _ _)=>.r
 | .s (.mkmap _ _)=>.k
 | .s (.mput _ _ _ _)=>.w
 | .s (.range _ _ _)=>.w
 | .call _ _ _=>.c
 | .next _ _=>.w
structure IC (q:Bool) (n0:Nat) (m:BJ) (dst:Option Nat) (A:de) (x:kO):Prop where
 d:x.d=dst
 b:∀k,(look k x.bw).isSome→(m= .n∧∃d,dst=some d∧k= .loc (n0+d)∧A.b k=none∧A.e k=none)∨m= .w∨(m= .c∧(∃j,k= .obj j)∧q=false)∨(m= .k∧(∃j,k= .obj j)∧A.b k=none∧A.e k=none)
 e:∀k,(look k x.ew).isSome→(m= .s∧∃d,dst=some d∧k= .loc (n0+d)∧A.b k=none∧A.e k=none)∨(m= .a∧(A.e k≠none∨ ∃d,dst=some d∧k= .loc (n0+d)∧A.b k=none∧A.e k=none))∨(m= .c∧(∃j,k= .obj j)∧q=false)∨(m= .r∧∃o,A.e k=some o∧o.xs≠none)
 r:∀k,x.rm=some k→(∃d,dst=some d∧k= .loc (n0+d))∨((m= .c∨m= .k)∧(∃j,k= .obj j)∧((look k x.bw).isSome∨(look k x.ew).isSome))
 ex:m= .a→∀k o,(look k x.ew).isSome→A.e k=some o→o.xs=none
 xn:m= .a∨m= .s→∀k o,look k x.ew=some o→o.xs=none
theorem tw{α:Type}{k k':aJ}{x:α}(h:(look k [(k',x)]).isSome):k=k':=by
 simp only[look]at h;split at h
 ·rename_i e;exact e.symm
 ·cases h
theorem LF{k k':aJ}{n el sz:Nat}{o:fL}(h:look k [(k',(⟨n,el,sz,none⟩:fL))]=some o):o.xs=none:=by
 simp only[look]at h;split at h
 ·cases h;rfl
 ·cases h
theorem Xy{P:cA}{q:Bool}{n0:Nat}{i:ed}{A:de}{x:kO}(h:er P q n0 i A x):IC q n0 i.mode i.dst A x:=by
 cases i with
 |s i=>
  cases i with
  |v d i=>simp only[er]at h;obtain⟨c,p,_,_,_,rfl⟩:=h;exact⟨rfl,fun k ad=>by simp[look]at ad,fun k ad=>by simp[look]at ad,fun k ad=>by simp at ad,fun _ k o ad=>by simp[look]at ad,fun _ k o ad=>by simp[look]at ad⟩
  |box d key v=>
   cases key with
   |some m=>simp only[er]at h
   |none=>simp only[er]at h;obtain⟨⟨_,U,ao⟩,_,rfl⟩:=h;exact⟨rfl,fun k ad=>by obtain rfl:=tw ad;exact .inl ⟨rfl,d,rfl,rfl,U,ao⟩,fun k ad=>by simp[look]at ad,fun k ad=>by simp at ad;exact .inl ⟨d,rfl,ad.symm⟩,fun _ k o ad=>by simp[look]at ad,fun _ k o ad=>by simp[look]at ad⟩
  |alloc d key z=>
   cases key with
   |some m=>simp only[er]at h
   |none=>simp only[er]at h;obtain⟨⟨_,U,ao⟩,rfl⟩:=h;exact⟨rfl,fun k ad=>by obtain rfl:=tw ad;exact .inl ⟨rfl,d,rfl,rfl,U,ao⟩,fun k ad=>by simp[look]at ad,fun k ad=>by simp at ad;exact .inl ⟨d,rfl,ad.symm⟩,fun _ k o ad=>by simp[look]at ad,fun _ k o ad=>by simp[look]at ad⟩
  |store sz u v=>simp only[er]at h;obtain⟨k,off,cs,_,_,_,rfl⟩:=h;exact⟨rfl,fun k ad=>.inr (.inl rfl),fun k ad=>by simp[look]at ad,fun k ad=>by simp at ad,fun _ k o ad=>by simp[look]at ad,fun _ k o ad=>by simp[look]at ad⟩
  |bsl d sz el xs=>simp only[er]at h;obtain⟨⟨_,U,ao⟩,_,rfl⟩:=h;exact⟨rfl,fun k ad=>by simp[look]at ad,fun k ad=>by obtain rfl:=tw ad;exact .inl ⟨rfl,d,rfl,rfl,U,ao⟩,fun k ad=>by simp at ad;exact .inl ⟨d,rfl,ad.symm⟩,fun e=>by simp[ed.mode]at e,fun _ k o ad=>LF ad⟩
  |app d sz el u v=>
   simp only[er]at h;obtain⟨tag,xs,k3,ys,_,_,h⟩:=h;rcases h with⟨k,o,_,J,⟨hj,_⟩,rfl⟩|⟨_,_,⟨_,U,ao⟩,rfl⟩
   ·exact⟨rfl,fun k ad=>by simp[look]at ad,fun k ad=>by obtain rfl:=tw ad;exact .inr (.inl ⟨rfl,.inl (by rw[J];simp)⟩),fun k ad=>by simp at ad,fun _ k' o' ad av=>by obtain rfl:=tw ad;rw[J]at av;cases av;exact hj,fun _ k o ad=>LF ad⟩
   ·exact⟨rfl,fun k ad=>by simp[look]at ad,fun k ad=>by obtain rfl:=tw ad;exact .inr (.inl ⟨rfl,.inr ⟨d,rfl,rfl,U,ao⟩⟩),fun k ad=>by simp at ad;exact .inl ⟨d,rfl,ad.symm⟩,fun _ k' o' ad av=>(by obtain rfl:=tw ad;rw[ao]at av;cases av),fun _ k o ad=>LF ad⟩
  |bslm d key sz el xs=>simp only[er]at h
  |mks d key sz el z x=>simp only[er]at h
  |appm d key sz el u v=>simp only[er]at h;obtain⟨k,n,xs,k3,ys,_,_,J,_,rfl⟩:=h;exact⟨rfl,fun k ad=>by simp[look]at ad,fun k ad=>by obtain rfl:=tw ad;exact .inr (.inr (.inr ⟨rfl,_,J,by simp⟩)),fun k ad=>by simp at ad,fun e=>by simp[ed.mode]at e,fun e=>by simp[ed.mode]at e⟩
  |storeE sz u v=>simp only[er]at h;obtain⟨k,n,i,f,el,dC,xs,q,_,J,_,_,rfl⟩:=h;exact⟨rfl,fun k ad=>by simp[look]at ad,fun k ad=>by obtain rfl:=tw ad;exact .inr (.inr (.inr ⟨rfl,_,J,by simp⟩)),fun k ad=>by simp at ad,fun e=>by simp[ed.mode]at e,fun e=>by simp[ed.mode]at e⟩
  |mkmap d key=>
   cases key with
   |none=>simp only[er]at h
   |some m=>simp only[er]at h;obtain⟨⟨_,U,ao⟩,rfl⟩:=h;exact⟨rfl,fun k ad=>by obtain rfl:=tw ad;exact .inr (.inr (.inr ⟨rfl,⟨m,rfl⟩,U,ao⟩)),fun k ad=>by simp[look]at ad,fun k ad=>by simp at ad;subst ad;exact .inr ⟨.inr rfl,⟨m,rfl⟩,.inl (by simp[look])⟩,fun e=>by simp[ed.mode]at e,fun e=>by simp[ed.mode]at e⟩
  |mput b7 x k v=>simp only[er]at h;obtain⟨m,cs,cs',_,_,_,rfl⟩:=h;exact⟨rfl,fun k ad=>.inr (.inl rfl),fun k ad=>by simp[look]at ad,fun k ad=>by simp at ad,fun e=>by simp[ed.mode]at e,fun e=>by simp[ed.mode]at e⟩
  |range d key x=>simp only[er]at h
 |next d x=>simp only[er]at h
 |call d f xs=>
  simp only[er]at h;obtain⟨n,dj,_,h⟩:=h;rcases h with⟨⟨s,s',r,rm,_,_,_,av,To,_,_,rfl⟩,bu⟩|⟨cE,r,rfl,_,_,_,rfl⟩;rotate_left
  ·exact⟨rfl,fun k ad=>by simp[look]at ad,fun k ad=>by simp[look]at ad,fun k ad=>by simp at ad;exact .inl ⟨cE,rfl,ad.symm⟩,fun _ k o ad=>by simp[look]at ad,fun _ k o ad=>by simp[look]at ad⟩
  refine⟨rfl,fun k ad=>.inr (.inr (.inl ⟨rfl,?_,?_⟩)),fun k ad=>.inr (.inr (.inl ⟨rfl,?_,?_⟩)),fun k ad=>.inr ⟨.inl rfl,(To.2.2.2.2 k ad).1,(To.2.2.2.2 k ad).2.2.2.2⟩,fun e=>by simp[ed.mode]at e,fun e=>by simp[ed.mode]at e⟩
  ·cases k with
   |loc m=>rw[av.1 m]at ad;cases ad
   |obj m=>exact⟨m,rfl⟩
  ·cases q with
   |false=>rfl
   |true=>rw[(bu rfl).1]at ad;simp[look]at ad
  ·cases k with
   |loc m=>rw[av.2 m]at ad;cases ad
   |obj m=>exact⟨m,rfl⟩
  ·cases q with
   |false=>rfl
   |true=>rw[(bu rfl).2]at ad;simp[look]at ad
theorem Oi{P:cA}{q:Bool}{n0:Nat}{i:ed}{A gk:de}{x:kO}(h:er P q n0 i A x)(aL:qC i.looks A.t gk.t)
  (aq:i.mode= .l→∀k,(q=true∨ ∃m,k= .loc m)→A.b k≠none→gk.b k=A.b k) (Td:i.mode= .m→∀k,A.b k≠none→gk.b k=A.b k)
  (lp:i.mode= .l→q=true→∀k o,A.e k=some o→o.xs≠none→gk.e k=some o)
  (au:∀d,i.dst=some d→(i.mode= .n∨i.mode= .s∨i.mode= .a∨i.mode= .c)→(A.F (.loc (n0+d))∧A.b (.loc (n0+d))=none∧A.e (.loc (n0+d))=none)→(gk.F (.loc (n0+d))∧gk.b (.loc (n0+d))=none∧gk.e (.loc (n0+d))=none))
  (bk:i.mode= .a→∀k o,A.e k=some o→gk.e k=some o) (hw:i.mode= .w→∀k,gk.b k=A.b k) (afY:i.mode= .k→∀m,(A.F (.obj m)∧A.b (.obj m)=none∧A.e (.obj m)=none)→(gk.F (.obj m)∧gk.b (.obj m)=none∧gk.e (.obj m)=none)) (CS:i.mode= .r→∀k o,A.e k=some o→o.xs≠none→gk.e k=some o)
  (ar:i.mode= .c→∀m,gk.b (.obj m)=A.b (.obj m)∧gk.e (.obj m)=A.e (.obj m)∧(A.F (.obj m)→gk.F (.obj m))):er P q n0 i gk x:=by
 cases i with
 |s i=>
  cases i with
  |v d i=>
   simp only[er]at h⊢;obtain⟨c,p,J,U,ao,a1⟩:=h;by_cases gU:∃agg sz y,i= .loadB agg sz y
   ·obtain⟨agg,sz,y,rfl⟩:=gU;simp only[ed.looks,eh.looks,fX.looks]at aL;have uD:=gy aL;refine⟨c,p,?_,U,fun _=>.inl rfl,a1⟩;rw[←J];simp only[pI,←uD];have hm:=Td (by simp[ed.mode]);simp only[pI]at J;cases bB:dy A.t y<;>simp only[r9];rename_i key off;rw[bB]at J;simp only[r9]at J;cases ae:A.b key with
    |none=>simp[ae]at J
    |some cs=>have:gk.b key=A.b key:=hm key (by rw[ae];simp);rw[this,ae]
   by_cases FC:∃b7 zero ok y z,i= .mgetB b7 zero ok y z
   ·obtain⟨b7,zero,ok,y,z,rfl⟩:=FC;simp only[ed.looks,eh.looks,fX.looks]at aL;obtain⟨t1,t2⟩:=kq aL;refine⟨c,p,?_,U,fun _=>.inl rfl,a1⟩;simp only[pI]at J⊢;rw[←gy t1,←gy t2];exact U1 (Td (by simp[ed.mode])) J
   replace ao:i.isLoad=true→q=true∨yd (i.ptrOf A.t)=true:=fun nQ=>(ao nQ).resolve_left (fun ae=>by cases i<;>simp[fX.isB]at ae;exact gU ⟨_,_,_,rfl⟩;exact FC ⟨_,_,_,_,_,rfl⟩);have afb:i.isLoad=true→(ed.s (.v d i)).mode= .l:=by intro nQ;cases i<;>simp only[fX.isLoad]at nQ<;>first|(cases nQ;done)|(simp[ed.mode,fX.isLoad];done)|exact absurd ⟨_,_,_,rfl⟩ gU|exact absurd ⟨_,_,_,_,_,rfl⟩ FC
   by_cases nQ:i.isLoad=true
   ·have bu:∀(bB:yd (i.ptrOf A.t)=false),∀k,A.b k≠none→gk.b k=A.b k:=fun bB k ad=>aq (afb nQ) k (.inl ((ao nQ).resolve_right (by rw[bB];simp))) ad;cases i<;>simp only[fX.isLoad]at nQ<;>try(cases nQ;done)
    case mget b7 zero ok y z=>simp only[ed.looks,eh.looks,fX.looks]at aL;obtain⟨t1,t2⟩:=kq aL;refine⟨c,p,?_,U,fun _=>.inr (ao rfl),a1⟩;simp only[pI]at J⊢;rw[←gy t1,←gy t2];exact U1 (bu rfl) J
    case ment y=>simp only[ed.looks,eh.looks,fX.looks]at aL;refine⟨c,p,?_,U,fun _=>.inr (ao rfl),a1⟩;simp only[pI]at J⊢;rw[←gy aL];exact ahf (bu rfl) J
    case mlen y=>simp only[ed.looks,eh.looks,fX.looks]at aL;refine⟨c,p,?_,U,fun _=>.inr (ao rfl),a1⟩;simp only[pI]at J⊢;rw[←gy aL];exact ahx (bu rfl) J
    case loadB agg sz y=>exact absurd ⟨_,_,_,rfl⟩ gU
    case mgetB=>exact absurd ⟨_,_,_,_,_,rfl⟩ FC
    rename_i agg sz y;simp only[ed.looks,eh.looks,fX.looks]at aL;have uD:=gy aL;refine⟨c,p,?_,U,fun _=>.inr (by have:=ao rfl;simpa only[fX.ptrOf,←uD]using this),a1⟩;rw[←J];simp only[pI,←uD];have hm:=aq (by simp[ed.mode,fX.isLoad]);simp only[pI]at J;have sV:=ao rfl;simp only[fX.ptrOf]at sV;cases bB:dy A.t y<;>simp only[r9]
    ·rename_i key off;rw[bB]at J sV;simp only[r9]at J;cases ae:A.b key with
     |none=>simp[ae]at J
     |some cs=>have:gk.b key=A.b key:=hm key (by rcases sV with h|h;exact .inl h;cases key;exact .inr ⟨_,rfl⟩;simp[yd]at h) (by rw[ae];simp);rw[this,ae]
    ·rename_i dC key n i f;rw[bB]at J sV;simp only[r9]at J;have afv:q=true:=sV.resolve_right (by simp[yd]);unfold yO at J;split at J
     ·rename_i n' el jn xs he;rw[he,lp (by simp[ed.mode,fX.isLoad]) afv key _ he (by simp)]
     ·cases J
   ·have nQ:i.isLoad=false:=by simpa using nQ
    refine⟨c,p,?_,U,(fun e=>by rw[nQ]at e;cases e),a1⟩;rw[←J];exact(alV (by simpa only[ed.looks,eh.looks]using aL) nQ).symm
  |box d key v=>
   cases key with
   |some m=>simp only[er]at h
   |none=>simp only[er,ed.looks,eh.looks]at h aL⊢;obtain⟨J,U,ao⟩:=h;rw[←gy aL];exact⟨au d rfl (.inl rfl) J,U,ao⟩
  |alloc d key z=>
   cases key with
   |some m=>simp only[er]at h
   |none=>simp only[er]at h⊢;exact⟨au d rfl (.inl rfl) h.1,h.2⟩
  |store sz u v=>simp only[er,ed.looks,eh.looks]at h aL⊢;obtain⟨J,U⟩:=kq aL;rw[←gy J,←gy U];obtain⟨k,off,cs,g1,g2,g3,g4⟩:=h;exact⟨k,off,cs,g1,by rw[hw rfl];exact g2,g3,g4⟩
  |bsl d sz el xs=>simp only[er,ed.looks,eh.looks]at h aL⊢;rw[←GJ aL];exact⟨au d rfl (.inr (.inl rfl)) h.1,h.2⟩
  |app d sz el u v=>
   simp only[er,ed.looks,eh.looks]at h aL⊢;obtain⟨J,U⟩:=kq aL;rw[←gy J,←gy U];obtain⟨tag,xs,k3,ys,g1,g2,h⟩:=h;refine⟨tag,xs,k3,ys,g1,g2,?_⟩;rcases h with⟨k,o,ai,ax,bn⟩|⟨ai,ax,bn,dp⟩
   ·exact .inl ⟨k,o,ai,bk rfl k o ax,bn⟩
   ·exact .inr ⟨ai,ax,au d rfl (.inr (.inr (.inl rfl))) bn,dp⟩
  |bslm d key sz el xs=>simp only[er]at h
  |mks d key sz el z x=>simp only[er]at h
  |appm d key sz el u v=>simp only[er,ed.looks,eh.looks]at h aL⊢;obtain⟨J,U⟩:=kq aL;rw[←gy J,←gy U];obtain⟨k,n,xs,k3,ys,g1,g2,g3,g4,g5⟩:=h;exact⟨k,n,xs,k3,ys,g1,g2,CS rfl k _ g3 (by simp),g4,g5⟩
  |storeE sz u v=>simp only[er,ed.looks,eh.looks]at h aL⊢;obtain⟨J,U⟩:=kq aL;rw[←gy J,←gy U];obtain⟨k,n,i,f,el,dC,xs,q,g1,g2,g3⟩:=h;exact⟨k,n,i,f,el,dC,xs,q,g1,CS rfl k _ g2 (by simp),g3⟩
  |mkmap d key=>
   cases key with
   |none=>simp only[er]at h
   |some m=>simp only[er]at h⊢;exact⟨afY rfl m h.1,h.2⟩
  |mput b7 u k v=>simp only[er,ed.looks,eh.looks]at h aL⊢;obtain⟨t1,t3⟩:=kq aL;obtain⟨t1,t2⟩:=kq t1;obtain⟨m,cs,cs',g1,g2,g3,g4⟩:=h;rw[←gy t1,←gy t2,←gy t3];exact⟨m,cs,cs',g1,by rw[hw rfl];exact g2,g3,g4⟩
  |range d key x=>simp only[er]at h
 |next d x=>simp only[er]at h
 |call d f xs=>
  simp only[er,ed.looks]at h aL⊢;obtain⟨J,U⟩:=kq aL;rw[←gy J,←GJ U];obtain⟨n,dj,g1,h⟩:=h;rcases h with⟨⟨s,s',r,rm,bQ,cp,ds,j7,kT,oj⟩,g3⟩|⟨cE,r,rfl,bQ,cp⟩;rotate_left
  ·exact⟨n,dj,g1,.inr ⟨cE,r,rfl,au cE rfl (.inr (.inr (.inr rfl))) bQ,cp⟩⟩
  refine⟨n,dj,g1,.inl ⟨⟨s,s',r,rm,fun k cs ad=>?_,fun k o ad=>?_,ds,j7,⟨kT.1,kT.2.1,kT.2.2.1,kT.2.2.2.1,fun k ad=>?_⟩,oj⟩,g3⟩⟩
  ·cases k with
   |loc m=>rw[ds.1 m]at ad;cases ad
   |obj m=>rw[(ar rfl m).1];exact bQ _ _ ad
  ·cases k with
   |loc m=>rw[ds.2 m]at ad;cases ad
   |obj m=>rw[(ar rfl m).2.1];exact cp _ _ ad
  ·obtain⟨⟨j,rfl⟩,d2,d3,d4,d5⟩:=kT.2.2.2.2 k ad;exact⟨⟨j,rfl⟩,(ar rfl j).2.2 d2,by rw[(ar rfl j).1];exact d3,by rw[(ar rfl j).2.1];exact d4,d5⟩
def lv(d:Option Nat):kO:=⟨d,.tuple [],[],[],none⟩
def kP(P:cA)(q:Bool)(n0:Nat)(g:c5)(A:de)(x:kO):Prop:=
 match g.g with
 |none=>er P q n0 g.i A x
 |some (s,w)=>match A.t s with
  | .bool b=>(b=w∧er P q n0 g.i A x)∨(b= !w∧x=lv g.i.dst)
  | .tuple []=>x=lv g.i.dst
  |_=>ep
def fa:BJ→BJ→Bool
 | .v,_=>true
 |_,.v=>true
 | .l,.l| .l,.n| .l,.s| .l,.a| .l,.c=>true
 | .n,.n| .n,.s| .n,.a| .n,.c=>true
 | .s,.l| .s,.n| .s,.s| .s,.c=>true
 | .a,.l| .a,.n| .a,.s=>true
 | .c,.l| .c,.n| .c,.s=>true
 | .l,.m| .m,.l| .m,.m| .m,.n| .m,.s| .m,.a| .s,.m| .a,.m=>true
 | .l,.k| .m,.k| .n,.k| .s,.k=>true
 | .m,.r| .r,.m| .r,.n| .r,.s| .n,.r| .s,.r| .r,.w| .w,.r=>true
 |_,_=>false
def zF(g h:c5):Bool:=(match g.i.dst with|some d=> !(h.looks.contains d)&&h.i.dst !=some d|none=>true)&&(match h.i.dst with|some d=> !(g.looks.contains d)|none=>true)&&fa g.i.mode h.i.mode
theorem Xz(q:Bool)(n0:Nat)(m:BJ)(d:Option Nat)(A:de):IC q n0 m d A (lv d):=⟨rfl,fun k ad=>by simp[lv,look]at ad,fun k ad=>by simp[lv,look]at ad,fun k ad=>by simp[lv]at ad,fun _ k o ad=>by simp[lv,look]at ad,fun _ k o ad=>by simp[lv,look]at ad⟩
theorem NK{P:cA}{q:Bool}{n0:Nat}{g:c5}{A:de}{x:kO}(h:kP P q n0 g A x):IC q n0 g.i.mode g.i.dst A x:=by
 unfold kP at h;split at h
 ·exact Xy h
 ·split at h
  ·rcases h with⟨_,h⟩|⟨_,rfl⟩
   ·exact Xy h
   ·exact Xz _ _ _ _ _
  ·subst h;exact Xz _ _ _ _ _
  ·exact h.elim
theorem sQ{A:de}{x:kO}{k:aJ}(h:look k x.bw=none):(A.do x).b k=A.b k:=by simp[de.do,iB,h]
theorem sR{A:de}{x:kO}{k:aJ}(h:look k x.ew=none):(A.do x).e k=A.e k:=by simp[de.do,iB,h]
theorem Jq{A:de}{x:kO}{k:aJ}(h:(A.do x).b k=none):A.b k=none:=by
 simp only[de.do,iB]at h;split at h
 ·cases h
 ·exact h
theorem Jr{A:de}{x:kO}{k:aJ}(h:(A.do x).e k=none):A.e k=none:=by
 simp only[de.do,iB]at h;split at h
 ·cases h
 ·exact h
theorem lT{α:Type}{o:Option α}(h:¬o.isSome):o=none:=by cases o<;>simp at h⊢
theorem Ol{P:cA}{q:Bool}{n0:Nat}{g:c5}{A gk:de}{x:kO}(h:kP P q n0 g A x)(aL:qC g.looks A.t gk.t)(hm:er P q n0 g.i A x→er P q n0 g.i gk x):kP P q n0 g gk x:=by
 unfold kP at h⊢;cases aR:g.g with
 |none=>simp only[aR]at h⊢;exact hm h
 |some yX=>
  obtain⟨s,w⟩:=yX;have:A.t s=gk.t s:=aL s (by simp[c5.looks,aR]);simp only[aR,this]at h⊢;split at h
  ·rcases h with⟨J,U⟩|h
   ·exact .inl ⟨J,hm U⟩
   ·exact .inr h
  ·exact h
  ·exact h
theorem swap{P:cA}{q:Bool}{n0:Nat}{g h:c5}(S3:zF g h=true){A:de}{x y:kO}(ab:kP P q n0 g A x)(aD:kP P q n0 h (A.do x) y):
  kP P q n0 h A y∧kP P q n0 g (A.do y) x∧x.apart y:=by
 simp only[zF,cx]at S3;obtain⟨⟨fm,eP⟩,hm⟩:=S3;have yZ:=NK ab;have cD:∀d ca,g.i.dst=some d→h.i.dst=some ca→d≠ca:=by intro d ca ai ax e;simp only[ai,cx,bne_iff_ne]at fm;exact fm.2 (by rw[ax,e])
 have FE:qC h.looks (A.do x).t A.t:=by intro i hi;simp only[de.do];rw[if_neg];intro e;rw[yZ.d]at e;simp only[e,cx,rk,List.contains_eq_mem,hK]at fm;exact fm.1 hi
 have qT:∀k,(look k x.bw).isSome→_:=yZ.b;have hle:∀k,(look k x.ew).isSome→_:=yZ.e;have Uk:kP P q n0 h A y:=by
  refine Ol aD FE fun hf=>Oi hf (fun i hi=>FE i (by simp[c5.looks,hi])) (fun e k ad ae=>?_) (fun e k ae=>?_) (fun e bu k o av hj=>?_) (fun d aE FW lK=>?_) (fun e k o av=>?_) (fun e k=>?_) (fun e m lK=>⟨lK.1.1,Jq lK.2.1,Jr lK.2.2⟩) (fun e k o av hj=>?_) (fun e m=>?_)
  ·rw[sQ (lT fun af=>?_)];rcases qT k af with⟨ai,_⟩|ai|⟨ai,⟨j,ax⟩,bn⟩|⟨ai,_⟩;rotate_left 3
   ·rw[e,ai]at hm;simp[fa]at hm
   ·rw[e,ai]at hm;simp[fa]at hm
   ·rw[e,ai]at hm;simp[fa]at hm
   ·rcases ad with ad|⟨m,ad⟩
    ·rw[ad]at bn;cases bn
    ·rw[ad]at ax;cases ax
  ·rw[sQ (lT fun af=>?_)];rcases qT k af with⟨ai,_⟩|ai|⟨ai,_⟩|⟨ai,_⟩<;>(rw[e,ai]at hm;simp[fa]at hm)
  ·rw[e]at hm;cases gp:look k x.ew with
   |none=>rw[sR gp]at av;exact av
   |some o'=>
    exfalso;have KM:(A.do x).e k=some o':=by simp[de.do,iB,gp]
    rw[KM]at av;cases av;rcases hle k (by simp[gp])with⟨ai,_⟩|⟨ai,_⟩|⟨ai,_,bn⟩|⟨ai,_⟩
    ·exact hj (yZ.xn (.inr ai) k _ gp)
    ·exact hj (yZ.xn (.inl ai) k _ gp)
    ·rw[bu]at bn;cases bn
    ·rw[ai]at hm;simp[fa]at hm
  ·exact⟨lK.1.1,Jq lK.2.1,Jr lK.2.2⟩
  ·rw[sR (lT fun af=>?_)]at av
   ·exact av
   ·rw[e]at hm;rcases hle k af with⟨ai,_⟩|⟨ai,_⟩|⟨ai,_⟩|⟨ai,_⟩<;>(rw[ai]at hm;simp[fa]at hm)
  ·rw[sQ (lT fun af=>?_)];rw[e]at hm;rcases qT k af with⟨ai,_⟩|ai|⟨ai,_⟩|⟨ai,_⟩<;>(rw[ai]at hm;simp[fa]at hm)
  ·rw[e]at hm;cases gp:look k x.ew with
   |none=>rw[sR gp]at av;exact av
   |some o'=>
    exfalso;have KM:(A.do x).e k=some o':=by simp[de.do,iB,gp]
    rw[KM]at av;cases av;rcases hle k (by simp[gp])with⟨ai,_⟩|⟨ai,_⟩|⟨ai,_⟩|⟨ai,_⟩
    ·exact hj (yZ.xn (.inr ai) k _ gp)
    ·rw[ai]at hm;simp[fa]at hm
    ·rw[ai]at hm;simp[fa]at hm
    ·rw[ai]at hm;simp[fa]at hm
  ·rw[e]at hm;refine⟨?_,?_,fun fs=>fs.1⟩
   ·rw[sQ (lT fun af=>?_)];rcases qT _ af with⟨ai,d,_,ax,_⟩|ai|⟨ai,_⟩|⟨ai,_⟩;rotate_left 3
    ·rw[ai]at hm;simp[fa]at hm
    ·cases ax
    ·rw[ai]at hm;simp[fa]at hm
    ·rw[ai]at hm;simp[fa]at hm
   ·rw[sR (lT fun af=>?_)];rcases hle _ af with⟨ai,d,_,ax,_⟩|⟨ai,_⟩|⟨ai,_⟩|⟨ai,_⟩
    ·cases ax
    ·rw[ai]at hm;simp[fa]at hm
    ·rw[ai]at hm;simp[fa]at hm
    ·rw[ai]at hm;simp[fa]at hm
 have ty:=NK Uk;have SE:qC g.looks A.t (A.do y).t:=by intro i hi;simp only[de.do];rw[if_neg];intro e;rw[ty.d]at e;simp only[e,rk,List.contains_eq_mem,hK]at eP;exact eP hi
 refine⟨Uk,?_,?_⟩
 ·refine Ol ab SE fun hf=>Oi hf (fun i hi=>SE i (by simp[c5.looks,hi])) (fun e k ad ae=>?_) (fun e k ae=>?_) (fun e bu k o av hj=>?_) (fun d aE FW lK=>?_) (fun e k o av=>?_) (fun e k=>?_) (fun e m lK=>?_) (fun e k o av hj=>?_) (fun e m=>?_)
  ·refine sQ (lT fun af=>?_);rcases ty.b k af with⟨ai,d,_,_,ax,_⟩|ai|⟨ai,⟨j,ax⟩,bn⟩|⟨_,_,ax,_⟩;rotate_left 3
   ·exact ae ax
   ·exact ae ax
   ·rw[e,ai]at hm;simp[fa]at hm
   ·rcases ad with ad|⟨m,ad⟩
    ·rw[ad]at bn;cases bn
    ·rw[ad]at ax;cases ax
  ·refine sQ (lT fun af=>?_);rcases ty.b k af with⟨ai,d,_,_,ax,_⟩|ai|⟨ai,_⟩|⟨_,_,ax,_⟩;rotate_left 3
   ·exact ae ax
   ·exact ae ax
   ·rw[e,ai]at hm;simp[fa]at hm
   ·rw[e,ai]at hm;simp[fa]at hm
  ·rw[sR (lT fun af=>?_)]
   ·exact av
   ·rcases ty.e k af with⟨ai,d,_,_,_,ax⟩|⟨ai,ax⟩|⟨ai,_,bn⟩|⟨ai,_⟩
    ·rw[ax]at av;cases av
    ·exact hj (ty.ex ai k o af av)
    ·rw[bu]at bn;cases bn
    ·rw[e,ai]at hm;simp[fa]at hm
  ·refine⟨⟨lK.1,fun qL=>?_⟩,?_,?_⟩
   ·rcases ty.r _ qL with⟨ca,ai,ax⟩|⟨_,⟨j,ax⟩,_⟩
    ·simp only[aJ.loc.injEq]at ax;exact cD d ca aE ai (by omega)
    ·cases ax
   ·rw[sQ (lT fun af=>?_)]
    ·exact lK.2.1
    ·rcases ty.b _ af with⟨ai,ca,ax,bn,_⟩|ai|⟨ai,⟨j,ax⟩,_⟩|⟨ai,⟨j,ax⟩,_⟩;rotate_left 3
     ·cases ax
     ·simp only[aJ.loc.injEq]at bn;exact cD d ca aE ax (by omega)
     ·rcases FW with ax|ax|ax|ax<;>(rw[ai,ax]at hm;simp[fa]at hm)
     ·cases ax
   ·rw[sR (lT fun af=>?_)]
    ·exact lK.2.2
    ·rcases ty.e _ af with⟨ai,ca,ax,bn,_⟩|⟨ai,ax⟩|⟨ai,⟨j,ax⟩,_⟩|⟨ai,o,ax,_⟩
     ·simp only[aJ.loc.injEq]at bn;exact cD d ca aE ax (by omega)
     ·rcases ax with ax|⟨ca,ax,bn,_⟩
      ·exact ax lK.2.2
      ·simp only[aJ.loc.injEq]at bn;exact cD d ca aE ax (by omega)
     ·cases ax
     ·rw[lK.2.2]at ax;cases ax
  ·rw[sR (lT fun af=>?_)]
   ·exact av
   ·rw[e]at hm;rcases ty.e k af with⟨ai,d,_,_,_,ax⟩|⟨ai,_⟩|⟨ai,_⟩|⟨ai,_⟩
    ·rw[ax]at av;cases av
    ·rw[ai]at hm;simp[fa]at hm
    ·rw[ai]at hm;simp[fa]at hm
    ·rw[ai]at hm;simp[fa]at hm
  ·refine sQ (lT fun af=>?_);rw[e]at hm;rcases ty.b k af with⟨ai,_⟩|ai|⟨ai,_⟩|⟨ai,_⟩<;>(rw[ai]at hm;simp[fa]at hm)
  ·rw[e]at hm;refine⟨⟨lK.1,fun qL=>?_⟩,?_,?_⟩
   ·rcases ty.r _ qL with⟨ca,ai,ax⟩|⟨ai|ai,_⟩
    ·cases ax
    ·rw[ai]at hm;simp[fa]at hm
    ·rw[ai]at hm;simp[fa]at hm
   ·rw[sQ (lT fun af=>?_)]
    ·exact lK.2.1
    ·rcases ty.b _ af with⟨ai,_⟩|ai|⟨ai,_⟩|⟨ai,_⟩<;>(rw[ai]at hm;simp[fa]at hm)
   ·rw[sR (lT fun af=>?_)]
    ·exact lK.2.2
    ·rcases ty.e _ af with⟨ai,_⟩|⟨ai,_⟩|⟨ai,_⟩|⟨ai,o,ax,_⟩
     ·rw[ai]at hm;simp[fa]at hm
     ·rw[ai]at hm;simp[fa]at hm
     ·rw[ai]at hm;simp[fa]at hm
     ·rw[lK.2.2]at ax;cases ax
  ·rw[sR (lT fun af=>?_)]
   ·exact av
   ·rw[e]at hm;rcases ty.e k af with⟨ai,d,_,_,_,ax⟩|⟨ai,_⟩|⟨ai,_⟩|⟨ai,_⟩
    ·rw[ax]at av;cases av
    ·rw[ai]at hm;simp[fa]at hm
    ·rw[ai]at hm;simp[fa]at hm
    ·rw[ai]at hm;simp[fa]at hm
  ·rw[e]at hm;refine⟨?_,?_,fun fs=>⟨fs,fun qL=>?_⟩⟩;rotate_left 2
   ·rcases ty.r _ qL with⟨ca,_,ax⟩|⟨ax|ax,_⟩
    ·cases ax
    ·rw[ax]at hm;simp[fa]at hm
    ·rw[ax]at hm;simp[fa]at hm
   ·refine sQ (lT fun af=>?_);rcases ty.b _ af with⟨ai,d,_,ax,_⟩|ai|⟨ai,_⟩|⟨ai,_⟩;rotate_left 3
    ·rw[ai]at hm;simp[fa]at hm
    ·cases ax
    ·rw[ai]at hm;simp[fa]at hm
    ·rw[ai]at hm;simp[fa]at hm
   ·refine sR (lT fun af=>?_);rcases ty.e _ af with⟨ai,d,_,ax,_⟩|⟨ai,_⟩|⟨ai,_⟩|⟨ai,_⟩
    ·cases ax
    ·rw[ai]at hm;simp[fa]at hm
    ·rw[ai]at hm;simp[fa]at hm
    ·rw[ai]at hm;simp[fa]at hm
 ·refine⟨fun i hi e=>?_,fun k ad=>lT fun af=>?_,fun k ad=>lT fun af=>?_⟩
  ·rw[yZ.d]at hi;rw[ty.d]at e;exact cD i i hi e rfl
  ·rcases qT k ad with⟨bt,d,a2,a3,_⟩|bt|⟨bt,⟨j,a2⟩,_⟩|⟨bt,_⟩<;>rcases ty.b k af with⟨bM,ca,bO,gg,_⟩|bM|⟨bM,⟨dB,bO⟩,_⟩|⟨bM,⟨dB,bO⟩,_⟩;all_goals first|(rw[bt,bM]at hm;simp[fa]at hm;done)|skip
   ·rw[a3]at gg;simp only[aJ.loc.injEq]at gg;exact cD d ca a2 bO (by omega)
   ·rw[a3]at bO;cases bO
   ·rw[a3]at bO;cases bO
   ·rw[a2]at gg;cases gg
  ·rcases hle k ad with⟨bt,d,a2,a3,_,a4⟩|⟨bt,a2⟩|⟨bt,⟨j,a2⟩,_⟩|⟨bt,fv,a2,_⟩<;>rcases ty.e k af with⟨bM,ca,bO,gg,_,uh⟩|⟨bM,bO⟩|⟨bM,⟨dB,bO⟩,_⟩|⟨bM,gH,bO,_⟩
   ·rw[a3]at gg;simp only[aJ.loc.injEq]at gg;exact cD d ca a2 bO (by omega)
   ·rw[bt,bM]at hm;simp[fa]at hm
   ·rw[a3]at bO;cases bO
   ·rw[a4]at bO;cases bO
   ·rcases a2 with a2|⟨d,a2,a3,_⟩
    ·exact a2 uh
    ·rw[a3]at gg;simp only[aJ.loc.injEq]at gg;exact cD d ca a2 bO (by omega)
   ·rw[bt,bM]at hm;simp[fa]at hm
   ·rw[bt,bM]at hm;simp[fa]at hm
   ·rw[bt,bM]at hm;simp[fa]at hm
   ·rw[a2]at gg;cases gg
   ·rw[bt,bM]at hm;simp[fa]at hm
   ·rw[bt,bM]at hm;simp[fa]at hm
   ·rw[bt,bM]at hm;simp[fa]at hm
   ·rw[uh]at a2;cases a2
   ·rw[bt,bM]at hm;simp[fa]at hm
   ·rw[bt,bM]at hm;simp[fa]at hm
   ·rw[bt,bM]at hm;simp[fa]at hm
def xj(C:fh)(A:de)(a:Act)(w:World):Prop:= ∃st ν,lC st A∧(∀k,A.F k→fresh st.n st.o k)∧cX C st a w ν
theorem LB{st:bh}{A:de}(h:lC st A)(d:Nat)(p:ah):lC {st with t:=put d p st.t} (A.do ⟨some d,p,[],[],none⟩):=by
 refine⟨fun i=>?_,fun k=>?_,fun k=>?_⟩
 ·simp only[de.do,pd,dw,h.t]
 ·simpa[de.do,iB,look]using h.b k
 ·simpa[de.do,iB,look]using h.e k
theorem UK{st:bh}{A:de}(h:lC st A)(d:Nat)(p:ah)(o':List aJ)(rm:Option aJ):lC {st with t:=put d p st.t,o:=o'} (A.do ⟨some d,p,[],[],rm⟩):=by have:=LB h d p;exact⟨this.t,this.b,this.e⟩
theorem Yw{α:Type}{β:Type}:∀l:List (aJ×α),b0 ([]:List (aJ×β)) l=l
 |[]=>rfl
 |(k,x)::r=>by simp[b0,look,Yw r]
theorem AF{st:bh}{A:de}(h:lC st A)(d:Nat)(p:ah)(κ:aJ)(cs:List ah)(n':Nat)(o':List aJ)(rm:Option aJ):lC ⟨put d p st.t,cu κ cs st.b,st.e,n',o'⟩ (A.do ⟨some d,p,[(κ,cs)],[],rm⟩):=by
 refine⟨fun i=>?_,fun k=>?_,fun k=>?_⟩
 ·simp only[de.do,pd,dw,h.t]
 ·simp only[de.do,iB,look,iW,h.b];by_cases e:κ=k<;>simp[e]
 ·simpa[de.do,iB,look]using h.e k
theorem GD{st:bh}{A:de}(h:lC st A)(κ:aJ)(cs:List ah)(p:ah):lC {st with b:=cu κ cs st.b} (A.do ⟨none,p,[(κ,cs)],[],none⟩):=by
 refine⟨fun i=>?_,fun k=>?_,fun k=>?_⟩
 ·simpa[de.do]using h.t i
 ·simp only[de.do,iB,look,iW,h.b];by_cases e:κ=k<;>simp[e]
 ·simpa[de.do,iB,look]using h.e k
theorem wD{st:bh}{A:de}(h:lC st A)(d:Nat)(p:ah)(κ:aJ)(o:fL)(n':Nat)(o':List aJ)(rm:Option aJ):lC ⟨put d p st.t,st.b,cu κ o st.e,n',o'⟩ (A.do ⟨some d,p,[],[(κ,o)],rm⟩):=by
 refine⟨fun i=>?_,fun k=>?_,fun k=>?_⟩
 ·simp only[de.do,pd,dw,h.t]
 ·simpa[de.do,iB,look]using h.b k
 ·simp only[de.do,iB,look,iW,h.e];by_cases e:κ=k<;>simp[e]
theorem UJ{st:bh}{A:de}(h:lC st A)(κ:aJ)(o:fL)(p:ah):lC {st with e:=cu κ o st.e} (A.do ⟨none,p,[],[(κ,o)],none⟩):=by
 refine⟨fun i=>?_,fun k=>?_,fun k=>?_⟩
 ·simpa[de.do]using h.t i
 ·simpa[de.do,iB,look]using h.b k
 ·simp only[de.do,iB,look,iW];by_cases e:κ=k<;>simp[e,h.e]
theorem LS{α:Type}{k:aJ}:∀{l:List (aJ×α)},k∈l.map (·.1)→(look k l).isSome
 |[],h=>by simp at h
 |(i,x)::r,h=>by
  simp only[look];split
  ·rfl
  ·rename_i e;simp only[gP,fA]at h;rcases h with h|h
   ·exact absurd h.symm e
   ·exact LS h
theorem vO{n:Nat}{o:List aJ}{κ:aJ}:∀j,fresh n (κ::o) j→fresh n o j∧j≠κ:=by intro j ag;simp only[fresh,fA,not_or]at ag⊢;exact⟨⟨ag.1,ag.2.2⟩,ag.2.1⟩
theorem ac6{n:Nat}{o:List aJ}{κ j:aJ}(h:fresh n o j)(ag:some κ≠some j):fresh n (κ::o) j:=by simp only[fresh,fA,not_or]at h⊢;exact⟨h.1,fun e=>ag (by rw[e]),h.2⟩
theorem Oj{P:cA}{bs:List (Nat×dx)}(aL:fP P bs=true){C:fh}{q:Bool}{n0:Nat}{i:ed}{o:Oper}(av:vb C.N bs i o=true){A:de}{x:kO}(ab:er P q n0 i A x){a:Act}{w:World}(aK:xj C A a w)
  {K:Act→World→Prop} {Q:Exit→Act→World→Prop} (c3:∀be w',xj C (A.do x) be w'→K be w'):o.wp P a w K Q:=by
 obtain⟨st,ν,aq,fs,aK⟩:=aK;have qO:∀(t:List (Nat×ah)) (b:List (aJ×List ah)) (e:List (aJ×fL)) (d:Option Nat) (p:ah) (bw:List (aJ×List ah)) (ew:List (aJ×fL)),∀k,(A.do ⟨d,p,bw,ew,none⟩).F k→fresh st.n st.o k:=fun t b e d p bw ew k ad=>fs k ad.1;have nb:∀(d:Option Nat) (p:ah) (bw:List (aJ×List ah)) (ew:List (aJ×fL)) (κ:aJ),∀k,(A.do ⟨d,p,bw,ew,some κ⟩).F k→fresh st.n (κ::st.o) k:=fun d p bw ew κ k ad=>ac6 (fs k ad.1) ad.2;cases i with
 |s i=>
  have hX:DX C.N bs i o=true:=by simpa only[vb]using av
  cases i with
  |v d i=>simp only[er]at ab;obtain⟨c,p,J,U,_,rfl⟩:=ab;rw[←XF aq]at J;refine jO (κ:= .loc 0) (n':=0) (o₁:=[]) aL aK hX (fun h=>by simp[eh.makes]at h) (fun h=>by simp[eh.makes]at h) (st':={st with t:=put d p st.t}) (by simp only[eE,J]) U fun be w' bg cr=>c3 _ _ ⟨_,bg,LB aq d p,fun k ad=>fs k ad.1,cr⟩
  |box d key v=>
   cases key with
   |some m=>simp only[er]at ab
   |none=>simp only[er]at ab;obtain⟨⟨J,_⟩,U,rfl⟩:=ab;rw[←iO aq]at U;refine jO (κ:= .loc (n0+d)) (n':=st.n) (o₁:= .loc (n0+d)::st.o) aL aK hX (fun _=>fs _ J) (fun _=>vO) (st':=⟨put d (.ptr (.loc (n0+d)) 0) st.t,cu (.loc (n0+d)) (cells (cj st.t v)) st.b,st.e,st.n,.loc (n0+d)::st.o⟩) (by simp only[eE]) U fun be w' bg cr=>c3 _ _ ⟨_,bg,?_,nb _ _ _ _ _,cr⟩;rw[iO aq];exact AF aq d _ _ _ _ _ _
  |alloc d key z=>
   cases key with
   |some m=>simp only[er]at ab
   |none=>simp only[er]at ab;obtain⟨⟨J,_⟩,rfl⟩:=ab;refine jO (κ:= .loc (n0+d)) (n':=st.n) (o₁:= .loc (n0+d)::st.o) aL aK hX (fun _=>fs _ J) (fun _=>vO) (st':=⟨put d (.ptr (.loc (n0+d)) 0) st.t,cu (.loc (n0+d)) (cells z) st.b,st.e,st.n,.loc (n0+d)::st.o⟩) (by simp only[eE]) trivial fun be w' bg cr=>c3 _ _ ⟨_,bg,AF aq d _ _ _ _ _ _,nb _ _ _ _ _,cr⟩
  |store sz u v=>simp only[er]at ab;obtain⟨k,off,cs,J,U,ao,rfl⟩:=ab;rw[←iO aq]at J ao;rw[←aq.b]at U;refine jO (κ:= .loc 0) (n':=0) (o₁:=[]) aL aK hX (fun h=>by simp[eh.makes]at h) (fun h=>by simp[eh.makes]at h) (st':={st with b:=cu k (nZ cs off (cells (cj st.t v))) st.b}) (by simp only[eE,J,U]) ao fun be w' bg cr=>c3 _ _ ⟨{st with b:=cu k (nZ cs off (cells (cj st.t v))) st.b},bg,by rw[iO aq];exact GD aq k _ _,fun k ad=>fs k ad.1,cr⟩
  |bsl d sz el xs=>simp only[er]at ab;obtain⟨⟨J,_⟩,U,rfl⟩:=ab;rw[←ur aq]at U;refine jO (κ:= .loc (n0+d)) (n':=st.n) (o₁:= .loc (n0+d)::st.o) aL aK hX (fun _=>fs _ J) (fun _=>vO) (st':=⟨put d (.slice sz (.own (.loc (n0+d))) (xs.map (cj st.t))) st.t,st.b,cu (.loc (n0+d)) ⟨xs.length,el,sz,none⟩ st.e,st.n,.loc (n0+d)::st.o⟩) (by simp only[eE]) U fun be w' bg cr=>c3 _ _ ⟨_,bg,?_,nb _ _ _ _ _,cr⟩;rw[ur aq];exact wD aq d _ _ _ _ _ _
  |app d sz el u v=>
   simp only[er]at ab;obtain⟨tag,xs,k3,ys,J,U,ab⟩:=ab;rw[←iO aq]at J U;rcases ab with⟨k,ow,rfl,ao,a1,rfl⟩|⟨rfl,ao,⟨a1,_⟩,rfl⟩
   ·rw[←aq.e]at ao;refine jO (κ:= .loc 0) (n':=0) (o₁:=[]) aL aK hX (fun h=>by simp[eh.makes,J]at h) (fun h=>by simp[eh.makes,J]at h) (st':=⟨put d (.slice sz (.own k) (xs++ys)) st.t,st.b,cu k ⟨xs.length+ys.length,el,sz,none⟩ st.e,st.n,st.o⟩) (by simp only[eE,J,U,ao,and_self,if_true]) a1.2 fun be w' bg cr=>c3 _ _ ⟨_,bg,wD aq d _ _ _ _ _ _,fun k ad=>fs k ad.1,cr⟩
   ·refine jO (κ:= .loc (n0+d)) (n':=st.n) (o₁:= .loc (n0+d)::st.o) aL aK hX (fun _=>fs _ a1) (fun _=>vO) (st':=⟨put d (.slice sz (.own (.loc (n0+d))) ys) st.t,st.b,cu (.loc (n0+d)) ⟨ys.length,el,sz,none⟩ st.e,st.n,.loc (n0+d)::st.o⟩) (by simp only[eE,J,U,and_self,if_true]) ao fun be w' bg cr=>c3 _ _ ⟨_,bg,wD aq d _ _ _ _ _ _,nb _ _ _ _ _,cr⟩
  |bslm d key sz el xs=>simp only[er]at ab
  |mks d key sz el z x=>simp only[er]at ab
  |appm d key sz el u v=>simp only[er]at ab;obtain⟨k,n,xs,k3,ys,J,U,ao,a1,rfl⟩:=ab;rw[←iO aq]at J U;rw[←aq.e]at ao;refine jO (κ:= .loc 0) (n':=0) (o₁:=[]) aL aK hX (fun h=>by simp[eh.makes,J]at h) (fun h=>by simp[eh.makes,J]at h) (st':=⟨put d (.row sz k (xs.length+ys.length)) st.t,st.b,cu k ⟨xs.length+ys.length,el,sz,some (xs++ys)⟩ st.e,st.n,st.o⟩) (by simp only[eE,sJ,J,U,ao,and_self,if_true]) a1 fun be w' bg cr=>c3 _ _ ⟨_,bg,wD aq d _ _ _ _ _ _,fun k ad=>fs k ad.1,cr⟩
  |storeE sz u v=>simp only[er]at ab;obtain⟨k,n,i,f,el,dC,xs,q,J,U,ao,a1,rfl⟩:=ab;rw[←iO aq]at J a1;rw[←aq.e]at U;refine jO (κ:= .loc 0) (n':=0) (o₁:=[]) aL aK hX (fun h=>by simp[eh.makes]at h) (fun h=>by simp[eh.makes]at h) (st':={st with e:=cu k ⟨n,el,dC,some (xs.set i (pG q f (cells (cj st.t v))))⟩ st.e}) (by simp only[eE,re,J,U,ao,and_self,if_true]) a1 fun be w' bg cr=>c3 _ _ ⟨{st with e:=cu k ⟨n,el,dC,some (xs.set i (pG q f (cells (cj st.t v))))⟩ st.e},bg,by rw[iO aq];exact UJ aq k _ _,fun k ad=>fs k ad.1,cr⟩
  |mkmap d key=>
   cases key with
   |none=>simp only[er]at ab
   |some m=>simp only[er]at ab;obtain⟨⟨J,_⟩,rfl⟩:=ab;exact jO (κ:= .obj m) (n':=st.n) (o₁:= .obj m::st.o) aL aK hX (fun _=>fs _ J) (fun _=>vO) (st':=⟨put d (.gmap (.obj m)) st.t,cu (.obj m) [.hdm 0 []] st.b,st.e,st.n,.obj m::st.o⟩) (by simp only[eE]) trivial fun be w' bg cr=>c3 _ _ ⟨_,bg,AF aq d _ _ _ _ _ _,nb _ _ _ _ _,cr⟩
  |mput b7 u k v=>simp only[er]at ab;obtain⟨m,cs,cs',J,U,ao,rfl⟩:=ab;rw[←iO aq]at J;rw[←iO aq,←iO aq]at ao;rw[←aq.b]at U;exact jO (κ:= .loc 0) (n':=0) (o₁:=[]) aL aK hX (fun h=>by simp[eh.makes]at h) (fun h=>by simp[eh.makes]at h) (st':={st with b:=cu m cs' st.b}) (by simp only[eE,J,U,ao]) trivial fun be w' bg cr=>c3 _ _ ⟨{st with b:=cu m cs' st.b},bg,GD aq m _ _,fun k ad=>fs k ad.1,cr⟩
  |range d key x=>simp only[er]at ab
 |next d x=>simp only[er]at ab
 |call d f xs=>
  simp only[er]at ab;obtain⟨n,dj,J,ab⟩:=ab;rw[←iO aq]at J;rcases ab with⟨⟨s,s',r,rm,bQ,cp,ds,j7,kT,oj,BY,rfl⟩,_⟩|⟨cE,r,rfl,bQ,cp,ds,rfl⟩;rotate_left
  ·rw[←ur aq]at cp ds;simp only[vb]at av;split at av
   ·rename_i rC args Bq nm;simp only[cx,dK]at av;obtain⟨⟨⟨ai,ax⟩,bn⟩,dp⟩:=av;have l6:=ef aK bn;rw[J]at l6;refine QV aK nm ai ax l6 (DS aK dp) (K:=fun st'=>st'={st with t:=put cE r st.t,o:= .loc (n0+cE)::st.o}) ⟨⟨[],[]⟩,_,some (n0+cE),st.n,fun _=>.loc (n0+cE)::st.o,fun k cs ad=>by simp[look]at ad,fun k cs ad=>by simp[look]at ad,⟨fun _=>rfl,fun _=>rfl⟩,jX (fun _ h=>h.elim) _ cp,ds,fun m hm=>?_,fun k eg s' bu ad=>?_,?_⟩ ?_
    ·cases hm;exact fs _ bQ.1
    ·obtain⟨_,rfl⟩:=bu;have:=vO k ad;exact⟨by simpa[cZ]using this.1,fun m hm=>by cases hm;exact this.2⟩
    ·rintro eg oR ⟨rfl,rfl⟩;refine⟨⟨fun m hm=>by simp[look]at hm,fun m hm=>by simp[look]at hm⟩,?_⟩;simp[after,Yw,eS]
    ·rintro st' be w' bg rfl cr;exact c3 _ _ ⟨_,bg,UK aq cE r _ _,nb _ _ _ _ _,cr⟩
   ·cases av
  rw[←ur aq]at oj BY;simp only[vb]at av;split at av
  ·rename_i rC args Bq nm;simp only[cx,dK]at av;obtain⟨⟨⟨ai,ax⟩,bn⟩,dp⟩:=av;have l6:=ef aK bn;rw[J]at l6;obtain⟨aS,bc,bT,dI,cY⟩:=kT;refine QU aK nm ai ax l6 (DS aK dp) (K:=fun st'=>st'=after st s s' d r) (.inl ⟨s,_,fun k cs ad=>⟨by rw[aq.b];exact(bQ k cs ad).1,.inl (by simp[ad]),(bQ k cs ad).2⟩,fun k o' ad=>⟨by rw[aq.e];exact(cp k o' ad).1,.inr (by simp[ad]),(cp k o' ad).2⟩,ds,oj,BY,?_⟩) ?_
   ·rintro eg oR ⟨rfl,rfl⟩;refine⟨⟨fun m hm=>?_,fun m hm=>?_⟩,rfl⟩
    ·rcases aS _ hm with h|h
     ·exact .inl h
     ·exact .inr (fs _ (cY _ h).2.1).2
    ·rcases bc _ hm with h|h
     ·exact .inl h
     ·exact .inr (fs _ (cY _ h).2.1).2
   ·rintro st' be w' bg rfl cr;refine c3 _ _ ⟨_,bg,⟨fun i=>?_,fun k=>?_,fun k=>?_⟩,fun k ad=>?_,cr⟩
    ·simp only[after,de.do];cases d with
     |none=>simpa[eS]using aq.t i
     |some d=>simp only[eS,pd,dw,aq.t]
    ·simp only[after,de.do,iB,yn,u1];by_cases af:(look k s.b).isSome
     ·have:=bT k af;obtain⟨y,aD⟩:=fB.1 this;simp[af,aD]
     ·cases au:look k s'.b with
      |none=>simp only[af,aq.b];cases A.b k<;>simp
      |some y=>
       rcases aS k (by simp[au])with h|h
       ·exact absurd h af
       ·have:=cY k h;simp[af,aq.b,this]
    ·simp only[after,de.do,iB,yn,u1];by_cases af:(look k s.e).isSome
     ·have:=dI k af;obtain⟨y,aD⟩:=fB.1 this;simp[af,aD]
     ·cases au:look k s'.e with
      |none=>simp only[af,aq.e];cases A.e k<;>simp
      |some y=>
       rcases bc k (by simp[au])with h|h
       ·exact absurd h af
       ·have:=cY k h;simp[af,aq.e,this]
    ·have Kv:=fs k ad.1;have oD:=aK.lookNone Kv;simp only[after];refine⟨Kv.1,fun jH=>?_⟩;rcases iH.1 jH with jH|jH
     ·exact Kv.2 jH
     ·rcases iH.1 jH with jH|jH
      ·rcases aS k (LS jH)with h|h
       ·obtain⟨y,aD⟩:=fB.1 h;have:=(bQ k y aD).1;rw[←aq.b,oD.1]at this;cases this
       ·exact ad.2 h
      ·rcases bc k (LS jH)with h|h
       ·obtain⟨y,aD⟩:=fB.1 h;have:=(cp k y aD).1;rw[←aq.e,oD.2]at this;cases this
       ·exact ad.2 h
  ·cases av
theorem YL{P:cA}{bs:List (Nat×dx)}(aL:fP P bs=true){C:fh}{q:Bool}{n0:Nat}{ops:Array Oper}{g:c5}{o:Oper}{j:Nat}(ag:ops[j]? =some o)(av:Cj C.N bs ops.toList g o=true){A:de}{x:kO}(ab:kP P q n0 g A x){a:Act}{w:World}(aK:xj C A a w)
  {K:Act→World→Prop} {Q:Exit→Act→World→Prop} (c3:∀be w',xj C (A.do x) be w'→K be w'):wpOp P ops Q j K a w:=by
 unfold wpOp;rw[ag];simp only;simp only[Cj,cx]at av;obtain⟨qR,oA⟩:=av;unfold kP at ab;cases CC:g.g with
 |none=>
  cases eD:o.guard with
  |some x=>simp[eD,CC]at qR
  |none=>
   have hw:oX o (yielded ops a.tmps)=true:=by simp[oX,eD]
   rw[if_pos hw];simp only[CC]at ab;exact .inl (Oj aL oA ab aK c3)
 |some yX=>
  obtain⟨s,want⟩:=yX;cases eD:o.guard with
  |none=>simp[eD,CC]at qR
  |some amT=>
   obtain⟨ao9,bV⟩:=amT;simp only[eD,CC,cx,dK,fo]at qR;obtain⟨⟨⟨⟨rfl,U⟩,ao⟩,a1⟩,b2⟩:=qR;obtain⟨st,ν,aq,fs,c7⟩:=id aK;obtain⟨kM,oW⟩:=YB c7 U ao;simp only[CC]at ab;have TE:∀(h:x=lv g.i.dst),K (a.put o.dst undef) w:=by
    rintro rfl;rw[a1];refine c3 _ _ ⟨_,ν,?_,fun k ad=>?_,c7.put b2 (p:= .tuple []) (by simp[a6,cK,undef])⟩
    ·refine⟨fun i=>?_,fun k=>?_,fun k=>?_⟩
     ·simp only[de.do,lv];cases g.i.dst with
      |none=>simpa[eS]using aq.t i
      |some d=>simp only[eS,pd,dw,aq.t]
     ·simpa[de.do,iB,look,lv]using aq.b k
     ·simpa[de.do,iB,look,lv]using aq.e k
    ·exact fs k ad.1
   split at ab
   ·rename_i b ae;have aD:=kM b (by rw[aq.t];exact ae);rcases ab with⟨rfl,ab⟩|⟨rfl,ab⟩
    ·have hw:oX o (yielded ops a.tmps)=true:=by simp[oX,eD,aD]
     rw[if_pos hw];exact .inl (Oj aL oA ab aK c3)
    ·have hw:¬(oX o (yielded ops a.tmps)=true):=by simp[oX,eD,aD]
     rw[if_neg hw];exact TE ab
   ·rename_i ae;have aD:=oW (by rw[aq.t];exact ae);have hw:¬(oX o (yielded ops a.tmps)=true):=by simp[oX,eD,aD]
    rw[if_neg hw];exact TE ab
   ·exact ab.elim
def vH(P:cA)(q:Bool)(n0:Nat)(K:de→Prop):List (Nat×c5)→de→Prop
 |[],A=>K A
 |(_,g)::r,A=> ∃x,kP P q n0 g A x∧vH P q n0 K r (A.do x)
theorem OY{P:cA}{q:Bool}{n0:Nat}{K:de→Prop}{i:Nat}{g:c5}:∀(oc kQ:List (Nat×c5)) (A:de),(∀x∈oc,zF x.2 g=true)→vH P q n0 K (oc++(i,g)::kQ) A→∃x,kP P q n0 g A x∧vH P q n0 K (oc++kQ) (A.do x)
 |[],kQ,A,_,h=>h
 |(j,Sr)::oc,kQ,A,ar,h=>by simp only[bR,vH]at h;obtain⟨y,aD,h⟩:=h;obtain⟨x,ab,h⟩:=OY oc kQ (A.do y) (fun z aY=>ar z (lA _ aY)) h;obtain⟨s1,s2,s3⟩:=swap (ar _ (List.mem_cons_self ..)) aD ab;refine⟨x,s1,y,s2,?_⟩;rw[←de.do_comm A s3];exact h
def rem(hH:Array Bool):Nat→List c5→List (Nat×c5)
 |_,[]=>[]
 |k,g::r=>if hH.getD k false then rem hH (k+1) r else(k,g)::rem hH (k+1) r
theorem WR{l l':Array Bool}:∀(gs:List c5) (k:Nat),(∀j,k≤j→l.getD j false=l'.getD j false)→rem l k gs=rem l' k gs
 |[],_,_=>rfl
 |g::r,k,h=>by simp only[rem,h k (ff _),WR r (k+1) fun j ag=>h j (by omega)]
theorem Fx{l:Array Bool}{i j:Nat}(h:i<l.size):(l.setIfInBounds i true).getD j false=if i=j then true else l.getD j false:=by
 simp only[Array.getD_eq_getD_getElem?];by_cases e:i=j
 ·subst e;simp[h]
 ·simp[e]
theorem M4{l:Array Bool}{i:Nat}(hi:i<l.size)(au:l.getD i false=false):∀(gs:List c5) (k:Nat),k≤i→i<k+gs.length→∃oc kQ g,gs[i-k]? =some g∧rem l k gs=oc++(i,g)::kQ∧rem (l.setIfInBounds i true) k gs=oc++kQ∧
  ∀x∈oc,gs[x.1-k]? =some x.2∧k≤x.1∧x.1<i∧l.getD x.1 false=false
 |[],k,J,U=>by simp at U;omega
 |g::r,k,J,U=>by
  by_cases e:k=i
  ·subst e;refine⟨[],rem l (k+1) r,g,by simp,by simp[rem,au],?_,fun x ab=>by simp at ab⟩;simp only[rem,Fx hi,if_true,bY];exact WR r (k+1) fun j ag=>by rw[Fx hi,if_neg (by omega)]
  ·obtain⟨oc,kQ,e9,ai,ax,bn,dp⟩:=M4 hi au r (k+1) (by omega) (by simp at U;omega);have vZ:i-k=(i-(k+1))+1:=by omega
   have hQ:(l.setIfInBounds i true).getD k false=l.getD k false:=by rw[Fx hi,if_neg (by omega)]
   by_cases ad:l.getD k false=true
   ·refine⟨oc,kQ,e9,by rw[vZ];simpa using ai,by simp only[rem,ad,if_true,ax],by simp only[rem,hQ,ad,if_true,bn],fun x ab=>?_⟩;obtain⟨f1,f2,f3,f4⟩:=dp x ab;refine⟨?_,by omega,f3,f4⟩;have:x.1-k=(x.1-(k+1))+1:=by omega
    rw[this];simpa using f1
   ·have ad:l.getD k false=false:=by simpa using ad
    refine⟨(k,g)::oc,kQ,e9,by rw[vZ];simpa using ai,by simp[rem,ad,ax],by simp[rem,hQ,ad,bn],fun x ab=>?_⟩;rcases fA.1 ab with rfl|ab
    ·exact⟨by simp,ff _,by simp;omega,ad⟩
    ·obtain⟨f1,f2,f3,f4⟩:=dp x ab;refine⟨?_,by omega,f3,f4⟩;have:x.1-k=(x.1-(k+1))+1:=by omega
     rw[this];simpa using f1
def u2(acc:List Nat):List Edge→Nat
 |[]=>0
 |e::r=>if Region.binds .any e then(2 ^ e.on)|||(acc.getD e.on 0)|||u2 acc r else u2 acc r
def sb(acc:List Nat):List Oper→List Nat
 |[]=>acc
 |o::os=>sb (acc++[u2 acc o.after.toList]) os
def DU(m:Nat)(h:c5):Nat→List c5→Bool
 |_,[]=>true
 |i,g::r=>(m.testBit i||zF g h)&&DU m h (i+1) r
def DC:List c5→List c5→List Nat→Bool
 |_,[],_=>true
 |pre,h::r,m::ms=>DU m h 0 pre&&DC (pre++[h]) r ms
 |_,_,[]=>false
def B5:Nat→List Oper→Bool
 |_,[]=>true
 |k,o::os=>o.after.toList.all (fun e=> !Region.binds .any e||decide (e.on<k))&&B5 (k+1) os
def BT(gs:List c5)(ops:List Oper):Bool:=B5 0 ops&&DC [] gs (sb [] ops)
theorem LK{acc:List Nat}{j:Nat}:∀{es:List Edge},(u2 acc es).testBit j=true→∃e∈es,Region.binds .any e=true∧(j=e.on∨(acc.getD e.on 0).testBit j=true)
 |[],h=>by simp[u2]at h
 |e::r,h=>by
  simp only[u2]at h;split at h
  ·rename_i ae;simp only[Nat.testBit_or,lY]at h;rcases h with(h|h)|h
   ·refine⟨e,by simp,ae,.inl ?_⟩;rw[Nat.testBit_two_pow]at h;have cr:e.on=j:=by simpa using h
    exact cr.symm
   ·exact⟨e,by simp,ae,.inr h⟩
   ·obtain⟨fT,J,U⟩:=LK h;exact⟨fT,by simp[J],U⟩
  ·obtain⟨fT,J,U⟩:=LK h;exact⟨fT,by simp[J],U⟩
theorem LL:∀(os:List Oper) (acc:List Nat) (k:Nat),k<acc.length→(sb acc os)[k]? =acc[k]?
 |[],acc,k,_=>rfl
 |o::os,acc,k,h=>by simp only[sb];rw[LL os _ k (by simp;omega),List.getElem?_append_left h]
theorem US:∀(os:List Oper) (acc:List Nat) (k:Nat) (o:Oper),os[k]? =some o→∃uf,(sb acc os)[acc.length+k]? =some (u2 uf o.after.toList)∧uf.length=acc.length+k∧∀i,i<uf.length→uf[i]? =(sb acc os)[i]?
 |[],acc,k,o,h=>by simp at h
 |o'::os,acc,0,o,h=>by
  simp only[List.getElem?_cons_zero,dw]at h;subst h;refine⟨acc,?_,by simp,fun i hi=>?_⟩
  ·simp only[sb,Nat.add_zero];rw[LL os _ _ (by simp)];simp
  ·simp only[sb];rw[LL os _ i (by simp;omega),List.getElem?_append_left hi]
 |o'::os,acc,k+1,o,h=>by simp only[List.getElem?_cons_succ]at h;obtain⟨uf,J,U,ao⟩:=US os (acc++[u2 acc o'.after.toList]) k o h;refine⟨uf,?_,by rw[U];simp;omega,fun i hi=>by rw[ao i hi];rfl⟩;simp only[sb];rw[show acc.length+(k+1)=(acc++[u2 acc o'.after.toList]).length+k from by simp;omega];exact J
def Og(ops:Array Oper)(hH:Array Bool):Prop:= ∀k o,ops[k]? =some o→hH.getD k false=true→∀e∈o.after.toList,Region.binds .any e=true→hH.getD e.on false=true
theorem aha{ops:Array Oper}{hH:Array Bool}(aE:Og ops hH):∀(k:Nat) (o:Oper),ops[k]? =some o→(∀e∈o.after.toList,Region.binds .any e=true→hH.getD e.on false=true)→∀j,((sb [] ops.toList).getD k 0).testBit j=true→hH.getD j false=true:=by
 intro k;induction k using qw with
 |_ k bP=>
  intro o av aq j ag;obtain⟨uf,J,U,ao⟩:=US ops.toList [] k o (by simpa using av);simp only[List.length_nil,Nat.zero_add]at J U;rw[List.getD_eq_getElem?_getD,J]at ag;obtain⟨e,he,ae,cU⟩:=LK ag;rcases cU with rfl|cU
  ·exact aq e he ae
  ·by_cases bm:e.on<uf.length
   ·have hm:uf.getD e.on 0=(sb [] ops.toList).getD e.on 0:=by rw[List.getD_eq_getElem?_getD,ao _ bm,List.getD_eq_getElem?_getD]
    have ad:k<ops.size:=(Array.getElem?_eq_some_iff.1 av).1;have hX:ops[e.on]? =some ops[e.on]:=Array.getElem?_eq_getElem (by omega);rw[hm]at cU;exact bP e.on (by omega) _ hX (fun fT vW gd=>aE e.on _ hX (aq e he ae) fT vW gd) j cU
   ·rw[List.getD_eq_getElem?_getD,qu (by omega)]at cU;simp at cU
theorem Xa{m:Nat}{h:c5}:∀{gs:List c5} {i0:Nat},DU m h i0 gs=true→∀i g,gs[i]? =some g→m.testBit (i0+i)=true∨zF g h=true
 |[],i0,_,i,g,aR=>by simp at aR
 |e9::r,i0,aK,0,g,aR=>by simp only[DU,cx,lY]at aK;simp only[List.getElem?_cons_zero,dw]at aR;subst aR;simpa using aK.1
 |e9::r,i0,aK,i+1,g,aR=>by simp only[DU,cx]at aK;have:=Xa aK.2 i g (by simpa using aR);rwa[show i0+1+i=i0+(i+1)from by omega]at this
theorem VP:∀{gs pre:List c5} {ms:List Nat},DC pre gs ms=true→∀j h,gs[j]? =some h→∀i g,i<pre.length+j→(pre++gs)[i]? =some g→(ms.getD j 0).testBit i=true∨zF g h=true
 |[],pre,ms,_,j,h,ag,_,_,_,_=>by simp at ag
 |cr::r,pre,[],bB,j,h,ag,_,_,_,_=>by simp[DC]at bB
 |cr::r,pre,m::ms,bB,j,h,ag,i,g,hi,aR=>by
  simp only[DC,cx]at bB;cases j with
  |zero=>simp only[List.getElem?_cons_zero,dw]at ag;subst ag;rw[List.getElem?_append_left (by omega)]at aR;simpa using Xa bB.1 i g aR
  |succ j=>have:=VP bB.2 j h (by simpa using ag) i g (by simp;omega) (by simpa using aR);simpa using this
theorem Rk:∀{os:List Oper} {k:Nat},B5 k os=true→∀i o,os[i]? =some o→∀e∈o.after.toList,Region.binds .any e=true→e.on<k+i
 |[],k,_,i,o,av,_,_,_=>by simp at av
 |o'::os,k,h,0,o,av,e,he,ae=>by simp only[B5,cx,ig]at h;simp only[List.getElem?_cons_zero,dw]at av;subst av;have:=h.1 e he;simpa[ae]using this
 |o'::os,k,h,i+1,o,av,e,he,ae=>by simp only[B5,cx]at h;have:=Rk h.2 i o (by simpa using av) e he ae;omega
theorem St{N:Nat}{bs:List (Nat×dx)}{ops:List Oper}:∀{gs:List c5} {os:List Oper},kv N bs ops gs os=true→∀(i:Nat) (g:c5),gs[i]? =some g→∃o,os[i]? =some o∧Cj N bs ops g o=true
 |[],[],_,i,g,h=>by simp at h
 |[],_::_,h,_,_,_=>by simp[kv]at h
 |_::_,[],h,_,_,_=>by simp[kv]at h
 |e9::gs,o::os,h,0,g,aR=>by simp only[kv,cx]at h;simp only[List.getElem?_cons_zero,dw]at aR;subst aR;exact⟨o,by simp,h.1⟩
 |e9::gs,o::os,h,i+1,g,aR=>by simp only[kv,cx]at h;obtain⟨o',J,U⟩:=St h.2 i g (by simpa using aR);exact⟨o',by simpa using J,U⟩
theorem Kd{N:Nat}{bs:List (Nat×dx)}{ops:List Oper}:∀{gs:List c5} {os:List Oper},kv N bs ops gs os=true→gs.length=os.length
 |[],[],_=>rfl
 |[],_::_,h=>by simp[kv]at h
 |_::_,[],h=>by simp[kv]at h
 |g::gs,o::os,h=>by simp only[kv,cx]at h;simp[Kd h.2]
theorem WS{l:Array Bool}:∀(gs:List c5) (k:Nat),rem l k gs=[]∨ ∃i g,i<gs.length∧gs[i]? =some g∧l.getD (k+i) false=false∧∀j,j<i→l.getD (k+j) false=true
 |[],_=>.inl rfl
 |g::r,k=>by
  by_cases h:l.getD k false=true
  ·rcases WS (l:=l) r (k+1)with J|⟨i,e9,J,U,ao,a1⟩
   ·left;simp only[rem,h,if_true,J]
   ·refine .inr ⟨i+1,e9,by simp;omega,by simpa using U,by rw[show k+(i+1)=k+1+i from by omega];exact ao,fun j ag=>?_⟩;cases j with
    |zero=>simpa using h
    |succ j=>rw[show k+(j+1)=k+1+j from by omega];exact a1 j (by omega)
  ·exact .inr ⟨0,g,by simp,by simp,by simpa using h,fun j ag=>by omega⟩
theorem Zh{P:cA}{bs:List (Nat×dx)}(aL:fP P bs=true){C:fh}{q:Bool}{n0:Nat}{ops:Array Oper}{gs:List c5}(kx:kv C.N bs ops.toList gs ops.toList=true)(FG:BT gs ops.toList=true){K:de→Prop}{Q:Exit→Act→World→Prop}
  (ia:∀A a w,K A→xj C A a w→Q .normal a w):∀(fuel:Nat) (hH:Array Bool) (A:de) (a:Act) (w:World),hH.size=ops.size→Og ops hH→(rem hH 0 gs).length≤fuel→vH P q n0 K (rem hH 0 gs) A→xj C A a w→wpAny P .any ops Q fuel hH a w:=by
 simp only[BT,cx]at FG;obtain⟨Kn,afr⟩:=FG;have hlen:gs.length=ops.size:=by simpa using Kd kx
 have SX:∀(hH:Array Bool) (A:de) (a:Act) (w:World),hH.size=ops.size→vH P q n0 K (rem hH 0 gs) A→xj C A a w→Region.ready .any ops hH=[]→Q .normal a w:=by
  intro hH A a w et sZ aK F7;rcases WS (l:=hH) gs 0 with h|⟨i,g,J,U,ao,a1⟩
  ·rw[h]at sZ;exact ia A a w sZ aK
  ·exfalso;have hi:i<ops.size:=by omega
   have jH:i∈Region.ready .any ops hH:=by
    unfold Region.ready;simp only[ha,List.mem_range,cx,rk];refine⟨hi,?_,?_⟩
    ·rw[Nat.zero_add]at ao;simp only[Array.getD_eq_getD_getElem?]at ao⊢;rw[Array.getElem?_eq_getElem (by omega)]at ao⊢;simpa using ao
    ·rw[Array.getElem?_eq_getElem hi];simp only[kN,jr];rw[←Array.all_toList,ig];intro e he;by_cases ae:Region.binds .any e=true
     ·have bm:=Rk Kn i ops[i] (by simp[hi]) e he ae;have:=a1 e.on (by omega);rw[Nat.zero_add]at this;simp[this]
     ·simp[ae]
   rw[F7]at jH;simp at jH
 intro fuel;induction fuel with
 |zero=>
  intro hH A a w et aE aO sZ aK;have afk:rem hH 0 gs=[]:=List.eq_nil_of_length_eq_zero (by omega);have F7:Region.ready .any ops hH=[]:=by
   rw[List.eq_nil_iff_forall_not_mem];intro i hi;unfold Region.ready at hi;simp only[ha,List.mem_range,cx,rk]at hi;obtain⟨J,U,_⟩:=hi;have au:hH.getD i false=false:=by simp only[Array.getD_eq_getD_getElem?]at U⊢;rw[Array.getElem?_eq_getElem (by omega)]at U⊢;simpa using U
   obtain⟨oc,kQ,g,_,ax,_⟩:=M4 (by omega) au gs 0 (by omega) (by omega);rw[afk]at ax;simp at ax
  exact⟨F7,SX hH A a w et sZ aK F7⟩
 |succ fuel bP=>
  intro hH A a w et aE aO sZ aK;refine⟨SX hH A a w et sZ aK,fun i hi=>?_⟩;unfold Region.ready at hi;simp only[ha,List.mem_range,cx,rk]at hi;obtain⟨J,U,ao⟩:=hi;have au:hH.getD i false=false:=by simp only[Array.getD_eq_getD_getElem?]at U⊢;rw[Array.getElem?_eq_getElem (by omega)]at U⊢;simpa using U
  have av:ops[i]? =some ops[i]:=Array.getElem?_eq_getElem J;have SY:∀e∈ops[i].after.toList,Region.binds .any e=true→hH.getD e.on false=true:=by rw[av]at ao;simp only[kN,jr]at ao;rw[←Array.all_toList,ig]at ao;intro e he ae;simpa[ae]using ao e he
  obtain⟨oc,kQ,g,ai,ax,bn,dp⟩:=M4 (by omega) au gs 0 (by omega) (by omega);simp only[Nat.sub_zero]at ai dp;rw[ax]at sZ;obtain⟨x,ab,aet⟩:=OY oc kQ A (fun y aD=>by
   obtain⟨f1,f2,f3,f4⟩:=dp y aD;rcases VP afr i g ai y.1 y.2 (by simpa using f3) (by simpa using f1)with h|h
   ·have:=aha aE i ops[i] av SY y.1 h;rw[f4]at this;cases this
   ·exact h) sZ
  obtain⟨o',g1,g2⟩:=St kx i g ai;have:o'=ops[i]:=by rw[tU,av]at g1;exact(e3 g1).symm
  subst this;refine YL aL av g2 ab aK fun be w' c7=>?_;refine bP (hH.setIfInBounds i true) (A.do x) be w' (by simpa using et) ?_ ?_ (by rw[bn];exact aet) c7
  ·intro k o ad aq e he ae;rw[Fx (by omega)]at aq⊢;split
   ·rfl
   ·by_cases vZ:i=k
    ·subst vZ;rw[av]at ad;cases ad;exact SY e he ae
    ·rw[if_neg vZ]at aq;exact aE k o ad aq e he ae
  ·rw[bn];rw[ax]at aO;simp at aO⊢;omega
def xH(n0 d:Nat)(st:bh):Prop:= .loc (n0+d)∉st.o∧look (.loc (n0+d)) st.b=none∧look (.loc (n0+d)) st.e=none
def fX.loadO(q:Bool)(t:List (Nat×ah)):fX→Prop
 | .load _ _ x=>q=true∨yd (cj t x)=true
 | .loadB _ _ _=>True
 | .mgetB _ _ _ _ _=>True
 | .mget _ _ _ _ _=>q=true
 | .ment _=>q=true
 | .mlen _=>q=true
 |_=>True
def l2(q:Bool)(nw:List Nat)(n0:Nat)(st:bh):eh→Prop
 | .v _ i=>i.loadO q st.t
 | .box d none _=>xH n0 d st
 | .alloc d none _=>xH n0 d st
 | .box _ (some _) _=>ep
 | .alloc _ (some _) _=>ep
 | .store _ x _=>match cj st.t x with| .ptr _ _=>True|_=>ep
 | .bslm _ _ _ _ _=>ep
 | .mks _ _ _ _ _ _=>ep
 | .appm _ _ _ _ x _=>match cj st.t x with| .row _ _ _=>True|_=>ep
 | .storeE _ _ _=>True
 | .mkmap _ none=>ep
 | .mkmap _ (some m)=>m∈nw∧look (.obj m) st.b=none∧look (.obj m) st.e=none
 | .mput _ _ _ _=>True
 | .range _ _ _=>ep
 | .bsl d _ _ _=>xH n0 d st
 | .app d _ _ x _=>match cj st.t x with
  | .slice _ .nil _=>xH n0 d st
  | .slice _ (.own k) _=>(look k st.e).bind (·.xs)=none
  |_=>True
def o8(n0:Nat):eh→aJ
 | .mkmap _ (some m)=>.obj m
 | .v d _| .box d _ _| .alloc d _ _| .bsl d _ _ _| .app d _ _ _ _| .bslm d _ _ _ _| .appm d _ _ _ _ _| .mkmap d _| .range d _ _| .mks d _ _ _ _ _=>.loc (n0+d)
 | .store _ _ _| .mput _ _ _ _| .storeE _ _ _=>.loc n0
def agJ(nw:List Nat)(st:bh)(s s':cI)(rm:Option aJ):Prop:=(∀k,(look k s'.b).isSome→(look k s.b).isSome∨rm=some k)∧(∀k,(look k s'.e).isSome→(look k s.e).isSome∨rm=some k)∧(∀k,(look k s.b).isSome→(look k s'.b).isSome)∧(∀k,(look k s.e).isSome→(look k s'.e).isSome)∧
 (∀k,rm=some k→(∃j,j∈nw∧k= .obj j)∧look k st.b=none∧look k st.e=none∧((look k s'.b).isSome∨(look k s'.e).isSome))
def fJ(P:cA)(q:Bool)(nw:List Nat)(n:Nat)(args:List ah)(st:bh)(d:Option Nat)(K:bh→Prop):Prop:=
 (∃cE r,d=some cE∧xH st.n cE st∧aN (fun _=>ep) args∧Is P n (st.n+cE) args ⟨[],[]⟩ (fun eg dF=>eg=r∧dF=⟨[],[]⟩)∧K {st with t:=put cE r st.t,o:= .loc (st.n+cE)::st.o})∨
 ∃s s' r rm,gB (inObs s) s.b st.b∧nA (inObs s) s.e st.e∧iE s∧iE s'∧agJ nw st s s' rm∧aN (inObs s) args∧bC P n args s (fun eg dF=>eg=r∧dF=s')∧(q=true→s'.b=[]∧s'.e=[])∧K {after st s s' d r with o:=st.o}
def kt(P:cA)(q:Bool)(nw:List Nat)(n0:Nat)(st:bh)(K:bh→Prop):ed→Prop
 | .s i=>match eE (o8 n0 i) st.n (o8 n0 i::st.o) st i with
  |some (c,st')=>l2 q nw n0 st i∧c∧K st'
  |none=>ep
 | .call d f xs=>match cj st.t f with
  | .func n dj=>fJ P q nw n (di (xs.map (cj st.t)++dj)) st d K
  |_=>ep
 | .next _ _=>ep
def hV(P:cA)(q:Bool)(nw:List Nat)(n0:Nat):List c5→bh→(bh→Prop)→Prop
 |[],st,K=>K st
 |⟨none,i⟩::r,st,K=>kt P q nw n0 st (fun st'=>hV P q nw n0 r st' K) i
 |⟨some (s,want),i⟩::r,st,K=>match get s st.t with
  | .bool b=>(b=want→kt P q nw n0 {st with t:=put s (.bool want) st.t} (fun st'=>hV P q nw n0 r st' K) i)∧(b= !want→hV P q nw n0 r {st with t:=eS i.dst (.tuple []) (put s (.bool !want) st.t)} K)
  | .tuple []=>hV P q nw n0 r {st with t:=eS i.dst (.tuple []) st.t} K
  |_=>ep
structure sD (nw:List Nat) (n0 N:Nat) (pB:List aJ) (st:bh) (A:de):Prop where
 like:lC st A
 n:st.n=n0
 F:∀k,fresh n0 st.o k→(∀j∈nw,k≠ .obj j)→A.F k
 o:∀k∈st.o,k∈pB∨(∃d,d<N∧k= .loc (n0+d))∨ ∃j∈nw,k= .obj j
def BK(nw:List Nat)(A:de):Prop:= ∀j∈nw,A.b (.obj j)=none→A.e (.obj j)=none→A.F (.obj j)
theorem BK.do{P:cA}{q:Bool}{n0:Nat}{nw:List Nat}{A:de}(h:BK nw A){g:c5}{x:kO}(ab:kP P q n0 g A x):BK nw (A.do x):=by
 intro j ag ae he;refine⟨h j ag (Jq ae) (Jr he),fun qL=>?_⟩;rcases(NK ab).r _ qL with⟨d,_,e⟩|⟨_,_,af⟩
 ·cases e
 ·rcases af with af|af
  ·obtain⟨y,aD⟩:=fB.1 af;simp[de.do,iB,aD]at ae
  ·obtain⟨y,aD⟩:=fB.1 af;simp[de.do,iB,aD]at he
theorem Rt{P:cA}{q:Bool}{nw:List Nat}{n0 N:Nat}{pB:List aJ}{i:ed}(aE:∀d,i.dst=some d→d<N){st:bh}{A:de}(h:sD nw n0 N pB st A)(mw:BK nw A){K:bh→Prop}(he:kt P q nw n0 st K i):∃x st',er P q n0 i A x∧K st'∧sD nw n0 N pB st' (A.do x):=by
 have aq:=h.like;have qQ:∀d,xH n0 d st→(A.F (.loc (n0+d))∧A.b (.loc (n0+d))=none∧A.e (.loc (n0+d))=none):=fun d aO=>⟨h.F _ ⟨by simp,aO.1⟩ (fun _ _ e=>by cases e),by rw[←aq.b];exact aO.2.1,by rw[←aq.e];exact aO.2.2⟩;have nb:∀(d:Option Nat) (p:ah) (bw:List (aJ×List ah)) (ew:List (aJ×fL)) (κ:aJ),∀k,fresh n0 (κ::st.o) k→(∀j∈nw,k≠ .obj j)→(A.do ⟨d,p,bw,ew,some κ⟩).F k:=fun d p bw ew κ k ad ag=>⟨h.F k (vO k ad).1 ag,fun e=>(vO k ad).2 (e3 e).symm⟩;have qO:∀(d:Option Nat) (p:ah) (bw:List (aJ×List ah)) (ew:List (aJ×fL)),∀k,fresh n0 st.o k→(∀j∈nw,k≠ .obj j)→(A.do ⟨d,p,bw,ew,none⟩).F k:=fun d p bw ew k ad ag=>⟨h.F k ad ag,by simp⟩;have lM:∀d,d<N→∀k∈aJ.loc (n0+d)::st.o,k∈pB∨(∃d,d<N∧k= .loc (n0+d))∨ ∃j∈nw,k= .obj j:=fun d aE k ad=>by
  rcases fA.1 ad with rfl|ad
  ·exact .inr (.inl ⟨d,aE,rfl⟩)
  ·exact h.o k ad
 cases i with
 |s i=>
  cases i with
  |v d i=>
   simp only[kt,eE]at he;cases aI:hr st i with
   |none=>simp[aI]at he
   |some Jn=>
    obtain⟨c,p⟩:=Jn;simp only[aI]at he;obtain⟨J,U,ao⟩:=he;refine⟨⟨some d,p,[],[],none⟩,_,⟨c,p,by rw[←XF aq];exact aI,U,fun nQ=>?_,rfl⟩,ao,LB aq d p,h.n,qO _ _ _ _,h.o⟩;cases i<;>simp only[fX.isLoad]at nQ<;>try(cases nQ;done)
    case mget=>exact .inr (.inl J)
    case ment=>exact .inr (.inl J)
    case mlen=>exact .inr (.inl J)
    case loadB=>exact .inl rfl
    case mgetB=>exact .inl rfl
    simp only[l2,fX.loadO,iO aq]at J;exact .inr (by simpa only[fX.ptrOf]using J)
  |box d key v=>
   cases key with
   |some m=>simp only[kt,eE,l2,false_and]at he
   |none=>simp only[kt,eE,l2,o8]at he;obtain⟨J,U,ao⟩:=he;rw[iO aq]at U;refine⟨_,_,⟨qQ d J,U,rfl⟩,ao,?_,h.n,nb _ _ _ _ _,lM d (aE d rfl)⟩;rw[iO aq];exact AF aq d _ _ _ _ _ _
  |alloc d key z=>
   cases key with
   |some m=>simp only[kt,eE,l2,false_and]at he
   |none=>simp only[kt,eE,l2,o8]at he;obtain⟨J,U,ao⟩:=he;exact⟨_,_,⟨qQ d J,rfl⟩,ao,AF aq d _ _ _ _ _ _,h.n,nb _ _ _ _ _,lM d (aE d rfl)⟩
  |store sz u v=>
   simp only[kt,eE]at he;cases hu:cj st.t u with
   |ptr k off=>
    cases ae:look k st.b with
    |none=>simp[hu,ae]at he
    |some cs=>simp only[hu,ae]at he;obtain⟨J,U,ao⟩:=he;rw[iO aq]at U hu;refine⟨⟨none,.junk,[(k,nZ cs off (cells (dy A.t v)))],[],none⟩,_,⟨k,off,cs,hu,by rw[←aq.b];exact ae,U,rfl⟩,ao,?_,h.n,qO _ _ _ _,h.o⟩;rw[iO aq];exact GD aq k _ _
   |_=>
    exfalso;simp only[hu]at he;split at he
    ·have:=he.1;simp[l2,hu]at this
    ·exact he
  |bsl d sz el xs=>simp only[kt,eE,l2,o8]at he;obtain⟨J,U,ao⟩:=he;rw[ur aq]at U;refine⟨_,_,⟨qQ d J,U,rfl⟩,ao,?_,h.n,nb _ _ _ _ _,lM d (aE d rfl)⟩;rw[ur aq];exact wD aq d _ _ _ _ _ _
  |app d sz el u v=>
   simp only[kt,eE]at he;cases hu:cj st.t u with
   |slice dC tag xs=>
    cases aI:cj st.t v with
    |slice jn k3 ys=>
     simp only[hu,aI]at he;by_cases fk:dC=sz∧jn=sz
     ·obtain⟨rfl,rfl⟩:=fk;rw[iO aq]at hu aI;cases tag with
      |no=>simp at he
      |tr k j=>simp at he
      |lo k=>simp at he
      |nil=>simp only[and_self,if_true,l2,iO aq,hu,o8]at he;obtain⟨J,U,ao⟩:=he;exact⟨_,_,⟨.nil,xs,k3,ys,hu,aI,.inr ⟨rfl,U,qQ d J,rfl⟩⟩,ao,wD aq d _ _ _ _ _ _,h.n,nb _ _ _ _ _,lM d (aE d rfl)⟩
      |own k=>
       cases ad:look k st.e with
       |none=>simp[ad]at he
       |some o=>simp only[and_self,if_true,ad]at he;obtain⟨J,U,ao⟩:=he;exact⟨_,_,⟨.own k,xs,k3,ys,hu,aI,.inl ⟨k,o,rfl,by rw[←aq.e];exact ad,⟨by simpa[l2,iO aq,hu,ad]using J,U⟩,rfl⟩⟩,ao,wD aq d _ _ _ _ _ _,h.n,qO _ _ _ _,h.o⟩
     ·simp[fk]at he
    |_=>simp[hu,aI]at he
   |_=>simp[hu]at he
  |bslm d key sz el xs=>simp only[kt,eE,l2,false_and]at he
  |mks d key sz el z x=>simp only[kt,eE,l2,false_and]at he;split at he<;>simp at he
  |appm d key sz el u v=>
   simp only[kt,eE]at he;cases hu:cj st.t u with
   |row dC k n=>
    cases aI:cj st.t v with
    |slice jn k3 ys=>
     simp only[hu,aI,sJ]at he;by_cases fk:dC=sz∧jn=sz
     ·obtain⟨rfl,rfl⟩:=fk;rw[iO aq]at hu aI;simp only[and_self,if_true]at he;cases ad:look k st.e with
      |none=>simp[ad]at he
      |some o=>
       obtain⟨n',fZ,w6,Mp⟩:=o;cases Mp with
       |none=>simp[ad]at he
       |some xs=>
        simp only[ad]at he;by_cases sY:n'=n∧fZ=el∧w6=jn
        ·obtain⟨rfl,rfl,rfl⟩:=sY;simp only[and_self,if_true]at he;obtain⟨J,U,ao⟩:=he;exact⟨_,_,⟨k,n',xs,k3,ys,hu,aI,by rw[←aq.e];exact ad,U,rfl⟩,ao,wD aq d _ _ _ _ _ _,h.n,qO _ _ _ _,h.o⟩
        ·simp[sY]at he
     ·simp[fk]at he
    |_=>simp[hu,aI,sJ]at he
   |slice dC tag xs=>
    exfalso;simp only[hu]at he;split at he
    ·have:=he.1;simp[l2,hu]at this
    ·exact he
   |_=>simp[hu,sJ]at he
  |storeE sz u v=>
   simp only[kt,eE]at he;cases hu:cj st.t u with
   |rptr dC k n i f=>
    cases ad:look k st.e with
    |none=>simp[hu,re,ad]at he
    |some o=>
     obtain⟨n',el,w6,Mp⟩:=o;cases Mp with
     |none=>simp[hu,re,ad]at he
     |some xs=>
      simp only[hu,re,ad]at he;by_cases sY:n'=n∧w6=dC
      ·obtain⟨rfl,rfl⟩:=sY;simp only[and_self,if_true]at he;cases bu:xs[i]? with
       |none=>simp[bu]at he
       |some q=>simp only[bu]at he;obtain⟨J,U,ao⟩:=he;rw[iO aq]at U hu;refine⟨⟨none,.junk,[],[(k,⟨n',el,w6,some (xs.set i (pG q f (cells (dy A.t v))))⟩)],none⟩,_,⟨k,n',i,f,el,w6,xs,q,hu,by rw[←aq.e];exact ad,bu,U,rfl⟩,ao,?_,h.n,qO _ _ _ _,h.o⟩;rw[iO aq];exact UJ aq k _ _
      ·simp[sY]at he
   |_=>simp[hu,re]at he
  |mkmap d key=>
   cases key with
   |none=>simp only[kt,eE,l2,false_and]at he
   |some m=>
    simp only[kt,eE,l2,o8]at he;obtain⟨⟨bD,J,U⟩,_,ao⟩:=he;rw[aq.b]at J;rw[aq.e]at U;refine⟨_,_,⟨⟨mw m bD J U,J,U⟩,rfl⟩,ao,AF aq d _ _ _ _ _ _,h.n,nb _ _ _ _ _,fun k ad=>?_⟩;rcases fA.1 ad with rfl|ad
    ·exact .inr (.inr ⟨m,bD,rfl⟩)
    ·exact h.o k ad
  |mput b7 u k v=>
   simp only[kt,eE,l2]at he;cases hu:cj st.t u with
   |gmap m=>
    cases ae:look m st.b with
    |none=>simp[hu,ae]at he
    |some cs=>
     cases hm:oO b7 (cj st.t k) (cj st.t v) cs with
     |none=>simp[hu,ae,hm]at he
     |some cs'=>simp only[hu,ae,hm]at he;rw[iO aq]at hu;rw[iO aq,iO aq]at hm;exact⟨⟨none,.junk,[(m,cs')],[],none⟩,_,⟨m,cs,cs',hu,by rw[←aq.b];exact ae,hm,rfl⟩,he.2.2,GD aq m _ _,h.n,qO _ _ _ _,h.o⟩
   |_=>simp[hu]at he
  |range d key x=>simp only[kt,l2,false_and]at he;split at he<;>exact he.elim
 |next d x=>simp only[kt]at he
 |call d f xs=>
  simp only[kt]at he;cases aO:cj st.t f with
  |func n dj=>
   simp only[aO]at he;rw[iO aq]at aO;rcases he with⟨cE,r,rfl,bQ,cp,ds,j7⟩|⟨s,s',r,rm,bQ,cp,ds,j7,kT,oj,BY,ZE,ZF⟩
   ·rw[ur aq]at cp ds;have au:=h.n;subst au;refine⟨⟨some cE,r,[],[],some (.loc (st.n+cE))⟩,_,⟨n,dj,aO,.inr ⟨cE,r,rfl,qQ cE bQ,cp,ds,rfl⟩⟩,j7,UK aq cE r _ _,rfl,nb _ _ _ _ _,lM cE (aE cE rfl)⟩
   rw[ur aq]at oj BY;obtain⟨aS,bc,bT,dI,cY⟩:=kT;refine⟨⟨d,r,s'.b,s'.e,rm⟩,_,⟨n,dj,aO,.inl ⟨⟨s,s',r,rm,fun k cs ad=>⟨by rw[←aq.b];exact(bQ k cs ad).1,(bQ k cs ad).2.2⟩,fun k o ad=>⟨by rw[←aq.e];exact(cp k o ad).1,(cp k o ad).2.2⟩,ds,j7,⟨aS,bc,bT,dI,fun k ad=>?_⟩,oj,BY,rfl⟩,ZE⟩⟩,ZF,⟨fun i=>?_,fun k=>?_,fun k=>?_⟩,h.n,fun k ad ag=>⟨h.F k ad ag,fun qL=>?_⟩,h.o⟩
   ·obtain⟨⟨j,ag,rfl⟩,ax,bn,dp⟩:=cY k ad;rw[aq.b]at ax;rw[aq.e]at bn;exact⟨⟨j,rfl⟩,mw j ag ax bn,ax,bn,dp⟩
   ·simp only[after,de.do];cases d with
    |none=>simpa[eS]using aq.t i
    |some d=>simp only[eS,pd,dw,aq.t]
   ·simp only[after,de.do,iB,yn,u1];by_cases af:(look k s.b).isSome
    ·have:=bT k af;obtain⟨y,aD⟩:=fB.1 this;simp[af,aD]
    ·cases au:look k s'.b with
     |none=>simp only[af,aq.b];cases A.b k<;>simp
     |some y=>
      rcases aS k (by simp[au])with h|h
      ·exact absurd h af
      ·have:=cY k h;simp[af,this]
   ·simp only[after,de.do,iB,yn,u1];by_cases af:(look k s.e).isSome
    ·have:=dI k af;obtain⟨y,aD⟩:=fB.1 this;simp[af,aD]
    ·cases au:look k s'.e with
     |none=>simp only[af,aq.e];cases A.e k<;>simp
     |some y=>
      rcases bc k (by simp[au])with h|h
      ·exact absurd h af
      ·have:=cY k h;simp[af,this]
   ·obtain⟨⟨j,ju,rfl⟩,_⟩:=cY k qL;exact ag j ju rfl
  |_=>simp[aO]at he
def zu(N:Nat):List c5→Bool
 |[]=>true
 |g::r=>jt N g.i.dst&&zu N r
def y6:Nat→List c5→List (Nat×c5)
 |_,[]=>[]
 |k,g::r=>(k,g)::y6 (k+1) r
theorem OC{nw:List Nat}{n0 N:Nat}{pB:List aJ}{st:bh}{A:de}(h:sD nw n0 N pB st A){s:Nat}{p:ah}(af:get s st.t=p):sD nw n0 N pB {st with t:=put s p st.t} A:=by
 refine⟨⟨fun i=>?_,h.like.b,h.like.e⟩,h.n,h.F,h.o⟩;simp only[pd];split
 ·rename_i e;subst e;rw[←af];exact h.like.t _
 ·exact h.like.t i
theorem OD{nw:List Nat}{n0 N:Nat}{pB:List aJ}{st:bh}{A:de}(h:sD nw n0 N pB st A)(d:Option Nat):sD nw n0 N pB {st with t:=eS d (.tuple []) st.t} (A.do (lv d)):=by
 refine⟨⟨fun i=>?_,fun k=>?_,fun k=>?_⟩,h.n,fun k ad ag=>⟨h.F k ad ag,by simp[lv]⟩,h.o⟩
 ·simp only[de.do,lv];cases d with
  |none=>simpa[eS]using h.like.t i
  |some d=>simp only[eS,pd,dw,h.like.t]
 ·simpa[de.do,iB,look,lv]using h.like.b k
 ·simpa[de.do,iB,look,lv]using h.like.e k
theorem B8{P:cA}{q:Bool}{nw:List Nat}{n0 N:Nat}{pB:List aJ}{K:bh→Prop}:∀(gs:List c5) (k:Nat),zu N gs=true→∀(st:bh) (A:de),sD nw n0 N pB st A→BK nw A→hV P q nw n0 gs st K→vH P q n0 (fun gk=> ∃st',K st'∧sD nw n0 N pB st' gk) (y6 k gs) A
 |[],k,_,st,A,h,_,he=>⟨st,he,h⟩
 |⟨na,i⟩::r,k,aE,st,A,h,mw,he=>by
  simp only[zu,cx]at aE;have s5:∀d,i.dst=some d→d<N:=fun d e=>by have:=aE.1;rw[e]at this;simpa[jt]using this
  simp only[y6,vH];cases na with
  |none=>simp only[hV]at he;obtain⟨x,st',J,U,ao⟩:=Rt s5 h mw he;have aR:kP P q n0 ⟨none,i⟩ A x:=J;exact⟨x,aR,B8 r (k+1) aE.2 st' _ ao (mw.do aR) U⟩
  |some yX=>
   obtain⟨s,want⟩:=yX;simp only[hV]at he;split at he
   ·rename_i b ae;by_cases e:b=want
    ·subst e;obtain⟨x,st',J,U,ao⟩:=Rt s5 (OC h ae) mw (he.1 rfl);have aR:kP P q n0 ⟨some (s,b),i⟩ A x:=by unfold kP;simp only[←h.like.t,ae];exact .inl ⟨trivial,J⟩
     exact⟨x,aR,B8 r (k+1) aE.2 st' _ ao (mw.do aR) U⟩
    ·have gd:b= !want:=by cases b<;>cases want<;>simp at e⊢
     subst gd;have aR:kP P q n0 ⟨some (s,want),i⟩ A (lv i.dst):=by unfold kP;simp only[←h.like.t,ae];exact .inr ⟨trivial,trivial⟩
     exact⟨lv i.dst,aR,B8 r (k+1) aE.2 _ _ (OD (OC h ae) i.dst) (mw.do aR) (he.2 rfl)⟩
   ·rename_i ae;have aR:kP P q n0 ⟨some (s,want),i⟩ A (lv i.dst):=by unfold kP;simp only[←h.like.t,ae]
    exact⟨lv i.dst,aR,B8 r (k+1) aE.2 _ _ (OD h i.dst) (mw.do aR) he⟩
   ·exact he.elim
theorem M3:∀(gs:List c5) (l:Array Bool) (k:Nat),(∀j,l.getD j false=false)→rem l k gs=y6 k gs
 |[],_,_,_=>rfl
 |g::r,l,k,h=>by simp only[rem,h k,y6,M3 r l (k+1) h];simp
def tX(n:Nat)(o:List aJ)(K:bh→Prop)(st:bh):Prop:=K {st with n:=n,o:=o}
theorem Good.like{pr:Nat→Prop}{w:World}{ν:a8}{b bV:List (aJ×List ah)}{e fT:List (aJ×fL)}(h:Good pr w ν b e)(ae:∀k,look k bV=look k b)(he:∀k,look k fT=look k e):Good pr w ν bV fT:=
 ⟨h.alt,fun k cs ad=>h.box k cs (by rw[←ae];exact ad),fun k k' bl J U=>h.inj k k' bl (by rw[←ae];exact J) (by rw[←ae];exact U),fun g o aR=>h.own g o (by rw[←he];exact aR),
  fun g e9 n n' v v' bl J U=>h.oinj g e9 n n' v v' bl (by rw[←he];exact J) (by rw[←he];exact U),fun g k n v bl J U=>h.obx g k n v bl (by rw[←he];exact J) (by rw[←ae];exact U),h.one,
  fun bl aL=>h.otr bl (aL.imp (fun⟨k,bt,a2⟩=>⟨k,by rw[←ae];exact bt,a2⟩) (fun⟨g,n,v,bt,a2⟩=>⟨g,n,v,by rw[←he];exact bt,a2⟩))⟩
theorem Rv{P:cA}(hm:P.follows .mixedOrders=true){bs:List (Nat×dx)}(aL:fP P bs=true){C:fh}{q:Bool}{nw:List Nat}{id:Nat}{ops:Array Oper}{gs:List c5}(kx:kv C.N bs ops.toList gs ops.toList=true)(FG:BT gs ops.toList=true)(iR:zu C.N gs=true)
  {K:bh→Prop} {Q:Exit→Act→World→Prop} (ia:∀st' be w' bg,K st'→cX C st' be w' bg→Q .normal be w') {st:bh} {a:Act} {w:World} {ν:a8} (afn:∀j∈nw,.obj j∉st.o) (he:hV P q nw st.n gs st (tX (st.n+C.N) (nw.map aJ.obj++st.o) K)) (aK:cX C st a w ν):(Code.region id ops true).wp P Q a w:=by
 refine wp_region_any hm ?_;have c7:cX C st a {w with drawn:=w.drawn+1} ν:=aK.drawn _;let A:de:=⟨fun i=>get i st.t,fun k=>look k st.b,fun k=>look k st.e,fresh st.n st.o⟩
 have pX:sD nw st.n C.N st.o st A:=⟨⟨fun _=>rfl,fun _=>rfl,fun _=>rfl⟩,rfl,fun k ad _=>ad,fun k ad=>.inl ad⟩;have sZ:=B8 gs 0 iR st A pX (fun j ag _ _=>⟨trivial,afn j ag⟩) he;have oD:∀j,(Array.replicate ops.size false).getD j false=false:=fun j=>by simp[Array.getD_eq_getD_getElem?,Array.getElem?_replicate];split<;>rfl
 refine Zh aL kx FG (q:=q) (n0:=st.n) (K:=fun gk=> ∃st',tX (st.n+C.N) (nw.map aJ.obj++st.o) K st'∧sD nw st.n C.N st.o st' gk) ?_ ops.size _ A a _ (by simp) ?_ ?_ (by rw[M3 gs _ 0 oD];exact sZ) ⟨st,ν,pX.like,fun k ad=>ad,c7⟩
 ·rintro gk be w' ⟨st',ad,bk⟩ ⟨arF,bg,oC,Cp,mB⟩;refine ia _ be w' bg ad ⟨mB.good.like (fun k=>by rw[oC.b,←bk.like.b]) (fun k=>by rw[oC.e,←bk.like.e]),mB.fr,mB.defers,mB.size,fun i=>?_,fun k zU=>?_⟩
  ·have:=mB.slot i;rw[oC.t,←bk.like.t]at this;exact this
  ·refine mB.new k (Cp k (bk.F k ?_ fun j ag e=>zU.2 (by subst e;exact List.mem_append_left _ (List.mem_map_of_mem ag))));simp only at zU;refine⟨(J1 (Nat.le_add_right st.n C.N) (fun _ h=>h) zU).1,fun jH=>?_⟩;rcases bk.o k jH with h|⟨d,aE,rfl⟩|⟨j,ag,rfl⟩;rotate_left 2
   ·exact zU.2 (List.mem_append_left _ (List.mem_map_of_mem ag))
   ·exact zU.2 (List.mem_append_right _ h)
   ·have:=zU.1;simp at this;omega
 ·intro k o ad aq;rw[oD]at aq;cases aq
 ·rw[M3 gs _ 0 oD];have:∀(gs:List c5) k,(y6 k gs).length=gs.length:=by
   intro gs;induction gs with
   |nil=>intro k;rfl
   |cons g r bP=>intro k;simp[y6,bP]
  rw[this];have:=Kd kx;simp at this;omega
def gx:List ah→Prop
 |[]=>True
 |p::cq=>(match p with| .slice _ _ xs=>xs.length≤lim| .str s=>s.length≤lim|_=>True)∧gx cq
def fY:ah→Prop
 | .slice _ _ xs=>xs.length≤lim
 | .str s=>s.length≤lim
 | .agg cs=>gx cs
 |_=>True
def gD:List ah→Prop
 |[]=>True
 |p::r=>fY p∧gD r
theorem M7{w:World}{ν:a8}:∀{cs:List ah} {us:List Value},dg w ν cs us→gx cs
 |[],_,_=>trivial
 |c::cs,us,h=>by
  simp only[dg]at h;obtain⟨u,b8,_,J,U⟩:=h;refine⟨?_,M7 U⟩;cases c<;>simp only<;>have ao:=J.1<;>simp only[a6]at ao
  ·exact ao.2
  ·obtain⟨⟨a,cap,_,_,a1,_⟩,_⟩:=ao;exact a1.2
theorem WV{w:World}{ν:a8}{cs:List ah}{us:List Value}(h:jm w ν cs us):h2 cs=true→gx cs:=fun bB=>by rw[u9 bB]at h;exact M7 h
theorem W6{w:World}{ν:a8}{p:ah}{v:Value}(h:a6 w ν p v):fY p:=by
 cases p<;>simp only[fY]<;>simp only[a6]at h
 ·exact h.2
 ·obtain⟨⟨a,cap,_,_,a1,_⟩,_⟩:=h;exact a1.2
 ·obtain⟨us,_,U⟩:=h;exact M7 U
theorem M9{w:World}{ν:a8}:∀{cs:List ah} {us:List Value},cK w ν cs us→gD cs
 |[],_,_=>trivial
 |c::cs,us,h=>by simp only[cK]at h;obtain⟨u,b8,_,J,U⟩:=h;exact⟨W6 J,M9 U⟩
inductive C where
 |skip
 |region (gs:List c5)
 |drawn (q:Bool) (N:Nat) (gs:List c5)
 |drawnW (nw:List Nat) (N:Nat) (gs:List c5)
 |seq (a b:C)
 |cond (x:dq) (t e:C)
 |block (id:Nat) (c:C)
 |loop (c:C)
 |exit (id:Nat)
 |ret
 |pub (s:Nat) (c:C)
 |pubB (s:Nat) (c:C)
 |fg (pt:Bool) (s:Nat) (c:C)
 |fz (agg:Bool) (s:Nat) (c:C)
 |no
def DG(st:bh):ah→Option (ah×List (aJ×fL))
 | .row sz k n=>match look k st.e with
  |some ⟨n',el,dC,some xs⟩=>if n'=n∧dC=sz then some (.slice sz (.own k) xs,cu k ⟨n,el,sz,none⟩ st.e)else none
  |_=>none
 |_=>none
def wS(st:bh)(s:Nat):Option bh:=
 match DG st (get s st.t)with
 |some (p,e)=>some {st with t:=put s p st.t,e:=e}
 |none=>none
def wR(st:bh)(s:Nat):Option bh:=
 match get (s%1000) st.t with
 | .ptr k off=>match look k st.b with
  |some cs=>match cs[off+s/1000]? with
   |some p=>match DG st p with
    |some (A1,e)=>if h2 cs then some {st with b:=cu k (cs.set (off+s/1000) A1) st.b,e:=e}else none
    |none=>none
   |none=>none
  |none=>none
 |_=>none
theorem M2{C:fh}{st:bh}{a:Act}{w:World}{ν:a8}(h:cX C st a w ν){s:Nat}{p:ah}(af:a6 w ν p (a.tmps.getD s undef)):cX C {st with t:=put s p st.t} a w ν:=by
 refine⟨h.good,h.fr,h.defers,h.size,fun i=>?_,h.new⟩;have:=h.slot i;simp only[pd];split
 ·rename_i e;subst e;exact af
 ·exact this
theorem VV{C:fh}{st:bh}{a:Act}{w:World}{ν:a8}(h:cX C st a w ν){p A1:ah}{e:List (aJ×fL)}{v:Value}(bB:a6 w ν p v)(he:DG st p=some (A1,e)):
  ∃bg,cX C {st with e:=e} a w bg∧a6 w bg A1 v∧lD w ν w bg:=by
 unfold DG at he;split at he
 ·rename_i sz k n;split at he
  ·rename_i n' el dC xs ad;split at he
   ·rename_i ar;obtain⟨rfl,rfl⟩:=ar;cases he;simp only[a6]at bB;obtain⟨_,aq,n0,u,J,U,ao⟩:=bB;obtain⟨v0,fx,aV,bf,bI,cN⟩:=h.good.own k _ ad;rw[J]at aV;simp only[dw,jB]at aV;obtain⟨rfl,rfl⟩:=aV;have aI:v=u:=ao rfl;subst aI;obtain⟨c6,_,_⟩:=cN xs rfl;simp only at c6;obtain⟨g1,g2⟩:=h.publish ad rfl J (by rw[c6];exact aq);refine⟨_,g1,g2,⟨fun b o ba=>⟨.inl ba,rfl⟩,fun j b _ ag=>ag,fun g n u _ iS=>⟨n,u,?_,.inl ⟨rfl,rfl⟩⟩,fun _ _ _=>rfl,fun _ _ _ _ h=>h⟩⟩;simp only[a8.withRowOf];split
    ·rename_i e;subst e;rw[J]at iS;exact iS
    ·exact iS
   ·cases he
  ·cases he
 ·cases he
def zB(pt:Bool):ah→ah
 | .slice sz tag xs=>.slice sz (if pt then tag else .no) (di xs)
 |p=>dU p
theorem acV{w:World}{ν:a8}{pt:Bool}{p:ah}{v:Value}(h:a6 w ν p v):a6 w ν (zB pt p) v:=by
 have J:=k1 p v h;cases p with
 |slice sz tag xs=>
  simp only[zB];cases pt with
  |false=>simpa only[gC,if_false,dU]using J
  |true=>
   simp only[if_true];simp only[a6,dU]at h J⊢;refine⟨J.1,fun e=>h.2.1 e,fun g e=>?_,fun k j e=>?_,fun k e=>?_⟩
   ·obtain⟨n,u,ai,ax,bn⟩:=h.2.2.1 g e;exact⟨n,u,ai,by rw[ss];exact ax,by rw[ss];exact bn⟩
   ·exact R6 _ _ (h.2.2.2.1 k j e)
   ·exact R6 _ _ (h.2.2.2.2 k e)
 |_=>exact J
theorem ajU{C:fh}{st st':bh}{a:Act}{w:World}{ν:a8}(h:cX C st a w ν){s:Nat}(he:wS st s=some st'):∃bg,cX C st' a w bg:=by
 unfold wS at he;split at he
 ·rename_i p e bB;cases he;obtain⟨bg,J,U,_⟩:=VV h (h.slot s) bB;exact⟨_,M2 J U⟩
 ·cases he
theorem W2{w:World}{ν:a8}:∀{cs:List ah} {us:List Value} {i:Nat} {p q:ah} {v:Value},dg w ν cs us→cs[i]? =some p→us[i]? =some v→a6 w ν q v→dg w ν (cs.set i q) us
 |[],_,_,_,_,_,_,h,_,_=>by simp at h
 |c::cs,us,0,p,q,v,h,_,aI,bu=>by simp only[dg]at h;obtain⟨u,b8,rfl,J,U⟩:=h;simp only[List.getElem?_cons_zero,dw]at aI;subst aI;simp only[List.set_cons_zero,dg];exact⟨_,_,rfl,⟨bu,J.2⟩,U⟩
 |c::cs,us,i+1,p,q,v,h,bB,aI,bu=>by simp only[dg]at h;obtain⟨u,b8,rfl,J,U⟩:=h;simp only[List.set_cons_succ,dg];exact⟨_,_,rfl,J,W2 U (by simpa using bB) (by simpa using aI) bu⟩
theorem ajT{C:fh}{st st':bh}{a:Act}{w:World}{ν:a8}(h:cX C st a w ν){s:Nat}(he:wR st s=some st'):∃bg,cX C st' a w bg:=by
 unfold wR at he;split at he
 ·rename_i k ahN ad;generalize ahN+s/1000=off at he;split at he
  ·rename_i cs df;split at he
   ·rename_i p bB;split at he
    ·rename_i A1 e F3;split at he
     ·rename_i ti;cases he;obtain⟨bl,us,el,g1,g2,g3,g4,g5⟩:=h.good.box k cs df;rw[u9 ti]at g5;have bm:off<us.toList.length:=by rw[pF g5];exact(fU.1 bB).1
      obtain⟨v,aI⟩:∃v,us.toList[off]? =some v:=⟨_,cb bm⟩;have Aa:a6 w ν p v:=by have:=Bh off g5;rw[k9 (fU.1 bB).1,k9 bm]at this;simp only[dg]at this;obtain⟨u,b8,ai,ax,_⟩:=this;rw[(fU.1 bB).2]at ax;rw[(fU.1 aI).2]at ai;cases ai;exact ax.1
      obtain⟨bg,J,U,ao⟩:=VV h Aa F3;have wi:dg w bg (cs.set off A1) us.toList:=W2 (W1 ao g5) bB aI U;have Tu:=Bj wi;refine⟨bg,⟨J.good.alt,fun j eO ag=>?_,fun j dB b ag ju=>J.good.inj j dB b ?_ ?_,J.good.own,J.good.oinj,fun g j n v b aR ag=>J.good.obx g j n v b aR ?_,J.good.one,fun bl ae=>J.good.otr bl (ae.imp (fun⟨k',bt,a2⟩=>⟨k',by rw[iW]at bt;split at bt;(rename_i e;subst e;simp[df]);exact bt,a2⟩) id)⟩,J.fr,J.defers,J.size,J.slot,J.new⟩
      ·simp only at ag;rw[iW]at ag;split at ag
       ·rename_i e;subst e;cases ag;obtain⟨iA,b8,fZ,f1,f2,f3,f4,f5⟩:=J.good.box k cs df;have:iA=bl:=by have:=ao.bx k bl trivial g1;rw[this]at f1;cases f1;rfl
        subst this;rw[u7 ti]at g4 f4;rw[g4]at f4;injection f4 with f4;injection f4 with f4 f6 f7;refine⟨iA,us,el,f1,f2,f3,by rw[u7 Tu];exact g4,by rw[u9 Tu];exact wi⟩
       ·exact J.good.box j eO ag
      ·simp only at ag;rw[iW]at ag;split at ag
       ·rename_i e;subst e;simp[df]
       ·exact ag
      ·simp only at ju;rw[iW]at ju;split at ju
       ·rename_i e;subst e;simp[df]
       ·exact ju
      ·simp only at ag;rw[iW]at ag;split at ag
       ·rename_i e;subst e;simp[df]
       ·exact ag
     ·cases he
    ·cases he
   ·cases he
  ·cases he
 ·cases he
def sP{α:Type}(k:aJ)(l:List (aJ×α)):List (aJ×α):=match l with
 |[]=>[]
 |(i,x)::r=>if i=k then sP k r else(i,x)::sP k r
theorem LC{α:Type}(k j:aJ):∀l:List (aJ×α),look j (sP k l)=if j=k then none else look j l
 |[]=>by simp[sP,look]
 |(i,x)::r=>by
  simp only[sP];by_cases h:i=k
  ·subst h;rw[if_pos rfl,LC i j r];by_cases U:j=i
   ·simp[U]
   ·have:¬i=j:=fun e=>U e.symm;simp[look,U,this]
  ·rw[if_neg h];simp only[look];by_cases U:i=j
   ·subst U;simp[h]
   ·simp only[U,if_false];exact LC k j r
def J4(agg:Bool):List ah→Option ah
 |[p]=>if agg then some (.agg [p])else some p
 |cs=>if agg then some (.agg cs)else none
def vP(st:bh)(agg:Bool)(s:Nat):Option bh:=
 match get s st.t with
 | .ptr k 0=>match look k st.b with
  |some cs=>if h2 cs then match J4 agg cs with
    |some x=>some {st with t:=put s (.eptr x) st.t,b:=sP k st.b}
    |none=>none
   else none
  |none=>none
 |_=>none
theorem ajC{u:Value}(h:u.oneCell'=true):u.cells.toList=[u]:=by cases u<;>first|rfl|(simp[Value.oneCell']at h)
theorem UB{w:World}{A:Nat→Nat→Prop}{b:Nat}{us:Array Value}{el:gL}(ae:w.heap[b]? =some (.cells us el))(ba:∀o,o<us.size→A b o):∀(a7:List Value) (off:Nat),us.toList.drop off=a7→lS w A b off a7
 |[],_,_=>trivial
 |v::a7,off,h=>by
  have bm:off<us.toList.length:=by
   rcases Nat.lt_or_ge off us.toList.length with J|J
   ·exact J
   ·rw[List.drop_eq_nil_of_le J]at h;cases h
  have U:=k9 bm;rw[h]at U;injection U with U ao;refine⟨⟨ba off (by simpa using bm),?_⟩,UB ae ba a7 (off+1) ao.symm⟩;have wc:off<us.size:=by simpa using bm
  simp only[World.cell?,ae,ja,gC,if_false];rw[U];simp[wc]
theorem ada{C:fh}{st st':bh}{a:Act}{w:World}{ν:a8}(h:cX C st a w ν){agg:Bool}{s:Nat}(he:vP st agg s=some st'):∃bg,cX C st' a w bg:=by
 unfold vP at he;split at he
 ·rename_i k ad;split at he
  ·rename_i cs df;split at he
   ·rename_i ti;split at he
    ·rename_i x ab;cases he;obtain⟨bl,us,el,g1,g2,g3,g4,g5⟩:=h.good.box k cs df;rw[u9 ti]at g5;rw[u7 ti]at g4;have bm:bl<w.heap.size:=by
      rcases Nat.lt_or_ge bl w.heap.size with J|J
      ·exact J
      ·rw[Array.getElem?_eq_none J]at g4;cases g4
     let bg:a8:={ν with A:=fun b o=>ν.A b o∨(b=bl∧o<us.size)}
     have av:lD w ν w bg:=⟨fun b o ba=>⟨.inl ba,rfl⟩,fun j b _ ag=>ag,fun g n u _ iS=>⟨n,u,iS,.inl ⟨rfl,rfl⟩⟩,fun _ _ _=>rfl,fun _ _ _ _ h=>h⟩;have gp:∀j eO,look j (sP k st.b)=some eO→j≠k∧look j st.b=some eO:=fun j eO ag=>by
      rw[LC]at ag;split at ag
      ·cases ag
      ·rename_i e;exact⟨e,ag⟩
     have FV:∀j,(look j (sP k st.b)).isSome→(look j st.b).isSome:=fun j ag=>by obtain⟨eO,iR⟩:=fB.1 ag;simp[(gp j eO iR).2]
     have pY:∀(g:aJ) (n:Nat) (v:Value),(look g st.e).isSome→ν.ow g=some (n,v)→v.ownBlock=some bl→ep:=fun g n v J U ao=>h.good.obx g k n v bl J (by simp[df]) U ao g1;have kf:a6 w bg (.eptr x) (a.tmps.getD s undef):=by
      have af:=h.slot s;rw[ad]at af;simp only[a6]at af⊢;obtain⟨bV,aV,bf⟩:=af;rw[g1]at aV;cases aV;have aq:lS w bg.A bl 0 us.toList:=UB g4 (fun o av=>.inr ⟨rfl,av⟩) _ 0 rfl;have g6:dg w bg cs us.toList:=W1 av g5;unfold J4 at ab;split at ab
      ·rename_i p;simp only[dg]at g6;obtain⟨u,b8,ai,ax,bn⟩:=g6;subst bn;split at ab
       ·cases ab;exact⟨bl,0,.agg us,bf,by simp only[a6];exact⟨us,rfl,by rw[ai];simp only[dg];exact⟨u,[],rfl,ax,rfl⟩⟩,by simpa[oY]using aq⟩
       ·cases ab;refine⟨bl,0,u,bf,ax.1,?_⟩;rw[ajC ax.2,←ai];exact aq
      ·split at ab
       ·cases ab;exact⟨bl,0,.agg us,bf,by simp only[a6];exact⟨us,rfl,g6⟩,by simpa[oY]using aq⟩
       ·cases ab
     refine⟨bg,M2 (ν:=bg) (st:={st with b:=sP k st.b}) ⟨⟨fun b o ba=>?_,fun j eO ag=>?_,fun j dB b J U=>h.good.inj j dB b (FV j J) (FV dB U),fun g o aR=>?_,h.good.oinj,fun g j n v b J U=>h.good.obx g j n v b J (FV j U),h.good.one,fun b aL=>h.good.otr b (aL.imp (fun⟨j,bt,a2⟩=>⟨j,FV j bt,a2⟩) id)⟩,⟨h.fr.os,h.fr.tape,h.fr.output,h.fr.size,h.fr.block,fun b o ba=>⟨.inl (h.fr.keep b o ba).1,(h.fr.keep b o ba).2⟩,fun b o ba=>?_,h.fr.obj,h.fr.obn,h.fr.row,h.fr.obr,h.fr.trd,h.fr.trb,h.fr.trn,h.fr.sh⟩,h.defers,h.size,fun i=>yN av (h.slot i),h.new⟩ kf⟩
     ·rcases ba with ba|⟨rfl,_⟩
      ·exact h.good.alt b o ba
      ·exact bm
     ·obtain⟨cD,ju⟩:=gp j eO ag;obtain⟨iA,b8,fZ,f1,f2,f3,f4,f5⟩:=h.good.box j eO ju;refine⟨iA,b8,fZ,f1,f2,fun o ba=>?_,f4,qh av f5⟩;rcases ba with ba|⟨rfl,_⟩
      ·exact f3 o ba
      ·exact cD (h.good.inj j k _ (by simp[ju]) (by simp[df]) f1 g1)
     ·obtain⟨v0,fx,ai,ax,bn,dp⟩:=h.good.own g o aR;have vS:∀b,v0.ownBlock=some b→∀j,bg.A b j→ν.A b j:=fun b ae j ba=>by
       rcases ba with ba|⟨rfl,_⟩
       ·exact ba
       ·exact(pY g _ v0 (by simp[aR]) ai ae).elim
      exact⟨v0,fx,ai,ax,fun b ae=>⟨(bn b ae).1,fun j ba=>(bn b ae).2 j (vS b ae j ba)⟩,sl av vS dp⟩
     ·rcases ba with ba|⟨rfl,_⟩
      ·exact h.fr.fresh b o ba
      ·exact .inr g2
    ·cases he
   ·cases he
  ·cases he
 ·cases he
def sk(st:bh)(x:dq)(b:Bool):bh:=match x with
 | .t i=>{st with t:=put i (.bool b) st.t}
 | .c _=>st
def c1(P:cA)(ob:List aJ):C→(Exit→bh→Prop)→bh→Prop
 | .skip,Q,st=>Q .normal st
 | .region gs,Q,st=>h8 P gs st (Q .normal)
 | .drawn q N gs,Q,st=>hV P q [] st.n gs st (tX (st.n+N) st.o (Q .normal))
 | .drawnW nw N gs,Q,st=>(∀j∈nw,.obj j∉st.o)∧hV P false nw st.n gs st (tX (st.n+N) (nw.map aJ.obj++st.o) (Q .normal))
 | .seq a b,Q,st=>c1 P ob a (fun e st'=>match e with| .normal=>c1 P ob b Q st'|e=>Q e st') st
 | .cond x t e,Q,st=>match cj st.t x with
  | .bool b=>(b=true→c1 P ob t Q (sk st x true))∧(b=false→c1 P ob e Q (sk st x false))
  |_=>ep
 | .block id c,Q,st=>c1 P ob c (fun e st'=>match e with| .exit j=>if j=id then Q .normal st' else Q (.exit j) st'|e=>Q e st') st
 | .loop c,Q,st=> ∃(hc:Nat→bh→Prop) (m:Nat) (w4:bh),iM ob st w4∧hc m w4∧
   ∀k s,hc k s→(∀i,fY (get i s.t))→(∀j cs,look j s.b=some cs→h2 cs=true→gx cs)→c1 P ob c (fun e s'=>match e with| .normal=> ∃k' oR,k'<k∧iM ob s' oR∧hc k' oR|e=>Q e s') s
 | .exit id,Q,st=>Q (.exit id) st
 | .ret,Q,st=>Q .ret st
 | .pub s c,Q,st=>match wS st s with
  |some st'=>c1 P ob c Q st'
  |none=>ep
 | .pubB s c,Q,st=>match wR st s with
  |some st'=>c1 P ob c Q st'
  |none=>ep
 | .fg pt s c,Q,st=>c1 P ob c Q {st with t:=put s (zB pt (get s st.t)) st.t}
 | .fz e8 s c,Q,st=>match vP st e8 s with
  |some st'=>c1 P ob c Q st'
  |none=>ep
 | .no,_,_=>ep
def hC(N:Nat)(bs:List (Nat×dx)):C→Code→Bool
 | .skip,.skip=>true
 | .region gs,.region _ ops false=>kv N bs ops.toList gs ops.toList
 | .drawn _ N' gs,.region _ ops true=>N'==N&&kv N bs ops.toList gs ops.toList&&BT gs ops.toList&&zu N gs
 | .drawnW _ N' gs,.region _ ops true=>N'==N&&kv N bs ops.toList gs ops.toList&&BT gs ops.toList&&zu N gs
 | .seq a b,.seq x y=>hC N bs a x&&hC N bs b y
 | .cond x t e,.cond o dF fT=>ee x o&&hC N bs t dF&&hC N bs e fT
 | .block id c,.block CZ cf=>id==CZ&&hC N bs c cf
 | .loop c,.loop cf=>hC N bs c cf
 | .exit id,.exit CZ=>id==CZ
 | .ret,.ret=>true
 | .pub _ c,cf=>hC N bs c cf
 | .pubB _ c,cf=>hC N bs c cf
 | .fg _ _ c,cf=>hC N bs c cf
 | .fz _ _ c,cf=>hC N bs c cf
 | .no,_=>true
 |_,_=>false
theorem Su{N:Nat}{bs:List (Nat×dx)}{ops:List Oper}:∀{gs:List c5} {os:List Oper},kv N bs ops gs os=true→gs.length=os.length
 |[],[],_=>rfl
 |[],_::_,h=>by simp[kv]at h
 |_::_,[],h=>by simp[kv]at h
 |g::gs,o::os,h=>by simp only[kv,cx]at h;simp[Su h.2]
def YK(P:cA)(C:fh)(c:Code)(Q:Exit→bh→Prop)(st:bh):Prop:= ∀a w ν,cX C st a w ν→c.wp P (fun e be w'=> ∃st' bg,Q e st'∧cX C st' be w' bg) a w
theorem qM{P:cA}(hm:P.follows .mixedOrders=true){bs:List (Nat×dx)}(aL:fP P bs=true){X:fh}:∀(c:C) (code:Code) (Q:Exit→bh→Prop) (st:bh),hC X.N bs c code=true→c1 P X.ob c Q st→YK P X code Q st
 | .skip,code,Q,st,av,he=>by
  cases code<;>simp only[hC]at av<;>try cases av
  intro a w ν aK;exact wp_skip ⟨st,ν,he,aK⟩
 | .region gs,code,Q,st,av,he=>by
  cases code<;>try(simp[hC]at av;done)
  rename_i id ops draw;cases draw<;>simp only[hC]at av
  ·intro a w ν aK;refine wp_region ?_;have aq:gs.length=ops.size:=by simpa using Su av
   rw[List.range_eq_range',←aq];exact Rw aL (K:=Q .normal) (fun st' be w' bg J U=>⟨st',bg,J,U⟩) gs ops.toList 0 (by simp) av st a w ν he aK
  ·cases av
 | .drawn q N gs,code,Q,st,av,he=>by
  cases code<;>try(simp[hC]at av;done)
  rename_i id ops draw;cases draw<;>simp only[hC]at av
  ·cases av
  ·simp only[cx,dK]at av;obtain⟨⟨⟨rfl,J⟩,U⟩,ao⟩:=av;intro a w ν aK;exact Rv hm aL J U ao (nw:=[]) (K:=Q .normal) (fun st' be w' bg J U=>⟨st',bg,J,U⟩) (by simp) he aK
 | .drawnW nw N gs,code,Q,st,av,he=>by
  cases code<;>try(simp[hC]at av;done)
  rename_i id ops draw;cases draw<;>simp only[hC]at av
  ·cases av
  ·simp only[cx,dK]at av;obtain⟨⟨⟨rfl,J⟩,U⟩,ao⟩:=av;intro a w ν aK;exact Rv hm aL J U ao (nw:=nw) (K:=Q .normal) (fun st' be w' bg J U=>⟨st',bg,J,U⟩) he.1 he.2 aK
 | .seq x y,code,Q,st,av,he=>by
  cases code<;>try(simp[hC]at av;done)
  rename_i o6 lG;simp only[hC,cx]at av;intro a w ν aK;refine wp_seq ?_;have J:=qM hm aL x o6 _ st av.1 he a w ν aK;refine wp_mono J fun e be w' cU=>?_;obtain⟨st',bg,bu,c7⟩:=cU;cases e with
  |normal=>exact qM hm aL y lG Q st' av.2 bu be w' bg c7
  |_=>exact⟨st',bg,bu,c7⟩
 | .cond x t e,code,Q,st,av,he=>by
  cases code<;>try(simp[hC]at av;done)
  rename_i o ZN ce;simp only[hC,cx]at av;intro a w ν aK;simp only[c1]at he;have ab:=ef aK av.1.1;split at he
  ·rename_i b ae;rw[ae]at ab;simp only[a6]at ab;have CS:cX X (sk st x b) a w ν:=by
    unfold sk;split
    ·exact M1 aK (by simpa[cj]using ae)
    ·exact aK
   refine wp_cond ab ?_;cases b
   ·exact qM hm aL e ce Q _ av.2 (he.2 rfl) a w ν CS
   ·exact qM hm aL t ZN Q _ av.1.2 (he.1 rfl) a w ν CS
  ·exact he.elim
 | .block id c,code,Q,st,av,he=>by
  cases code<;>try(simp[hC]at av;done)
  rename_i CZ cf;simp only[hC,cx,dK]at av;obtain⟨rfl,av⟩:=av;intro a w ν aK;refine wp_block ?_;refine wp_mono (qM hm aL c cf _ st av he a w ν aK) fun e be w' cU=>?_;obtain⟨st',bg,bu,c7⟩:=cU;cases e with
  |exit j=>
   simp only[Exit.inBlock]at bu⊢;by_cases ag:j=id
   ·rw[if_pos ag]at bu⊢;exact⟨st',bg,bu,c7⟩
   ·rw[if_neg ag]at bu⊢;exact⟨st',bg,bu,c7⟩
  |_=>exact⟨st',bg,bu,c7⟩
 | .loop c,code,Q,st,av,he=>by
  cases code<;>try(simp[hC]at av;done)
  rename_i cf;simp only[hC]at av;intro a w ν aK;simp only[c1]at he;obtain⟨hc,m,w4,hw,hi,jJ⟩:=he;refine wp_loop_ghost (fun k a w=> ∃s ν,hc k s∧cX X s a w ν) m ⟨w4,_,hi,aK.weaker hw⟩ ?_;intro k a w aed;obtain⟨s,ν,af,Ab⟩:=aed;have J:=jJ k s af (fun i=>W6 (Ab.slot i)) (fun j cs ag=>by obtain⟨bl,us,el,_,_,_,_,g5⟩:=Ab.good.box j cs ag;exact WV g5);refine wp_mono (qM hm aL c cf _ s av J a w ν Ab) fun e be w' cU=>?_;obtain⟨st',bg,bu,c7⟩:=cU;cases e with
  |normal=>obtain⟨k',oR,ai,ax,bn⟩:=bu;exact⟨k',ai,oR,_,bn,c7.weaker ax⟩
  |_=>exact⟨st',bg,bu,c7⟩
 | .exit id,code,Q,st,av,he=>by
  cases code<;>try(simp[hC]at av;done)
  rename_i CZ;simp only[hC,dK]at av;subst av;intro a w ν aK;exact wp_exit ⟨st,ν,he,aK⟩
 | .ret,code,Q,st,av,he=>by
  cases code<;>try(simp[hC]at av;done)
  intro a w ν aK;exact wp_ret ⟨st,ν,he,aK⟩
 | .pub s c,code,Q,st,av,he=>by
  simp only[hC]at av;simp only[c1]at he;split at he
  ·rename_i st' af;intro a w ν aK;obtain⟨bg,J⟩:=ajU aK af;exact qM hm aL c code Q st' av he a w bg J
  ·exact he.elim
 | .pubB s c,code,Q,st,av,he=>by
  simp only[hC]at av;simp only[c1]at he;split at he
  ·rename_i st' af;intro a w ν aK;obtain⟨bg,J⟩:=ajT aK af;exact qM hm aL c code Q st' av he a w bg J
  ·exact he.elim
 | .fg pt s c,code,Q,st,av,he=>by simp only[hC]at av;simp only[c1]at he;intro a w ν aK;exact qM hm aL c code Q _ av he a w ν (M2 aK (acV (aK.slot s)))
 | .fz e8 s c,code,Q,st,av,he=>by
  simp only[hC]at av;simp only[c1]at he;intro a w ν aK;split at he
  ·rename_i st' c8;obtain⟨bg,J⟩:=ada aK c8;exact qM hm aL c code Q st' av he a w bg J
  ·exact he.elim
 | .no,code,Q,st,av,he=>by simp only[c1]at he
inductive bA where
 |tmp (i:Nat)
 |cell (i:Nat) (agg:Bool) (sz:Nat)
def aW(st:bh):bA→Option (Prop×ah)
 | .tmp i=>some (True,get i st.t)
 | .cell i agg sz=>mI st.b st.e agg sz (get i st.t)
def aT(st:bh):List bA→Option (Prop×List ah)
 |[]=>some (True,[])
 |r::eG=>match aW st r,aT st eG with
  |some (c,p),some (cf,cq)=>some (c∧cf,p::cq)
  |_,_=>none
def q8(bs:List (Nat×dx)):List bA→List ResultVar→Bool
 |[],[]=>true
 | .tmp i::eG,.tmp j::os=>i==j&&q8 bs eG os
 | .cell i agg sz::eG,.cell j t::os=>i==j&&(match ea bs t with|some f=>f.size==sz&&f.kind.isAgg==agg|none=>false)&&q8 bs eG os
 |_,_=>false
def aQ:List ah→ah
 |[p]=>p
 |cq=>.tuple cq
def HM(tmps:Array Value):ResultVar→Sem Value
 | .tmp t=>pure (tmps.getD t undef)
 | .cell x t=>do loadVar t (←asAddr (tmps.getD x undef))
theorem W8(fn:Func)(tmps:Array Value):results fn tmps=(do let a7←fn.results.mapM (HM tmps);pure (if h:a7.size=1 then a7[0]else .tuple a7)):=by unfold results;congr 2
theorem HG{P:cA}{bs:List (Nat×dx)}(aL:fP P bs=true){X:fh}{st:bh}{a:Act}{w:World}{ν:a8}(aK:cX X st a w ν):
  ∀(eG:List bA) (os:List ResultVar) (c:Prop) (cq:List ah),q8 bs eG os=true→aT st eG=some (c,cq)→c→
  ∃a7,(os.mapM (HM a.tmps)).run P w= .ok a7 w∧cK w ν cq a7
 |[],[],c,cq,_,he,_=>by simp only[aT]at he;cases he;exact⟨[],by simp,by simp[cK]⟩
 |[],_::_,_,_,av,_,_=>by simp[q8]at av
 | .tmp _::_,[],_,_,av,_,_=>by simp[q8]at av
 | .cell _ _ _::_,[],_,_,av,_,_=>by simp[q8]at av
 |r::eG,o::os,c,cq,av,he,ar=>by
  simp only[aT]at he;split at he
  ·rename_i bQ p cp VU J U;cases he;cases r with
   |tmp i=>
    cases o with
    |cell _ _=>simp[q8]at av
    |tmp j=>simp only[q8,cx,dK]at av;obtain⟨rfl,av⟩:=av;simp only[aW]at J;cases J;obtain⟨a7,g1,g2⟩:=HG aL aK eG os cp VU av U ar.2;refine⟨a.tmps.getD i undef::a7,?_,by simp only[cK];exact⟨_,_,rfl,aK.slot i,g2⟩⟩;simp only[List.mapM_cons,fI,HM,gq,fQ,g1]
   |cell i agg sz=>
    cases o with
    |tmp _=>simp[q8]at av
    |cell j t=>
     simp only[q8,cx,dK]at av;obtain⟨⟨rfl,ao⟩,av⟩:=av;split at ao
     ·rename_i f aO;simp only[cx,dK]at ao;obtain⟨rfl,rfl⟩:=ao;simp only[aW]at J;obtain⟨a7,g1,g2⟩:=HG aL aK eG os cp VU av U ar.2;obtain⟨v,f1,f2⟩:=GF aL aK.good aO (aK.slot i) J ar.1;have CP:∃sH,a.tmps.getD i undef= .pointer (some sH):=by
       have af:=aK.slot i;unfold mI at J;split at J
       ·rename_i dC k n wq rC ad;rw[ad]at af;simp only[a6]at af;obtain⟨⟨b,o,e⟩,_⟩:=af;exact⟨_,e⟩
       ·rename_i k off ad;rw[ad]at af;simp only[a6]at af;obtain⟨b,_,e⟩:=af;exact⟨_,e⟩
       ·rename_i q ad;rw[ad]at af;simp only[a6]at af;obtain⟨b,off,u,e,_⟩:=af;exact⟨_,e⟩
       ·cases J
      obtain⟨sH,Cs⟩:=CP;rw[Cs]at f1;simp only[Instr.loadAt,Instr.sureAddr,fI,gq,fQ]at f1;refine⟨v::a7,?_,by simp only[cK];exact⟨_,_,rfl,f2,g2⟩⟩;have aek:(asAddr (.pointer (some sH)):Sem Addr).run P w= .ok sH w:=rfl;simp only[List.mapM_cons,fI,HM,gq,fQ,g1,Cs,aek,f1]
     ·cases ao
  ·cases he
theorem yL{w:World}{ν:a8}:∀{cq:List ah} {a7:List Value},cK w ν cq a7→a7.length=cq.length
 |[],a7,h=>by simp only[cK]at h;subst h;rfl
 |p::cq,a7,h=>by simp only[cK]at h;obtain⟨u,b8,rfl,_,U⟩:=h;simp[yL U]
def jP:Nat→List ah→List (Nat×ah)
 |_,[]=>[]
 |i,p::cq=>(i,p)::jP (i+1) cq
theorem Fy:∀(cq:List ah) (i j:Nat),get j (jP i cq)=if i≤j∧j<i+cq.length then cq.getD (j-i) .junk else .junk
 |[],i,j=>by simp[jP,get]
 |p::cq,i,j=>by
  simp only[jP,get];by_cases h:i=j
  ·subst h;simp
  ·rw[if_neg h,Fy cq (i+1) j];by_cases U:i≤j∧j<i+(p::cq).length
   ·rw[if_pos U,if_pos (by simp at U⊢;omega)];have:j-i=(j-(i+1))+1:=by omega
    rw[this];simp
   ·rw[if_neg U,if_neg (by simp at U⊢;omega)]
def kY{α:Type}(s':cI):List (aJ×α)→Prop
 |[]=>True
 |(k,_)::r=>inObs s' k∧kY s' r
theorem Av{α:Type}{s':cI}:∀{l:List (aJ×α)},kY s' l→∀k,(look k l).isSome→inObs s' k
 |[],_,k,h=>by simp[look]at h
 |(i,x)::r,ad,k,h=>by
  simp only[kY]at ad;simp only[look]at h;split at h
  ·rename_i e;subst e;exact ad.1
  ·exact Av ad.2 k h
def cJ(eG:List bA)(s:cI)(Q:ah→cI→Prop)(e:Exit)(st:bh):Prop:=
 (e= .ret∨e= .normal)∧match aT st eG with
  |some (c,cq)=>c∧∃s',kY s' s.b∧kY s' s.e∧gB (inObs s') s'.b st.b∧nA (inObs s') s'.e st.e∧iE s'∧aH (inObs s') (dU (aQ cq))∧Q (dU (aQ cq)) s'
  |none=>ep
theorem bC.of{P:cA}(hm:P.follows .mixedOrders=true){bs:List (Nat×dx)}(aL:fP P bs=true){f:FuncId}{fn:Func}(aO:P.funcs[f]? =some fn){code:Code}(ae:fn.body=some code)(zY:(fn.name== "runtime.NumGoroutine")=false){c:C}(ar:hC fn.ntmps bs c code=true){eG:List bA}(Ab:q8 bs eG fn.results.toList=true)
  {args:List ah} (aq:args.length≤fn.ntmps) {s:cI} (pk:iE s) {Q:ah→cI→Prop} (he:gD args→(∀j cs,look j s.b=some cs→h2 cs=true→gx cs)→c1 P (cZ s) c (cJ eG s Q) ⟨jP 0 args,s.b,s.e,0,cZ s⟩):bC P f args s Q:=by
 intro w ν a7 aR ab aK;refine .inl ⟨⟨fn,aO,by simp[ae],zY⟩,?_⟩;have oJ:=yL aK;have kC:a7.size=args.length:=by simpa using oJ
 let X:fh:=⟨w,ν,fl ν s,fn.ntmps,cZ s⟩
 have oD:∀k,fresh 0 (cZ s) k→ν.bx k=none∧ν.ow k=none∧∀j b,¬ν.tr k j b:=by
  intro k ad;cases k with
  |loc m=>exact⟨(ab _).1 (pk.1 m),(ab _).2.1 (pk.2 m),(ab _).2.2⟩
  |obj m=>
   simp only[fresh,true_and]at ad;refine⟨?_,?_,(ab _).2.2⟩
   ·refine(ab _).1 ?_;cases h:look (.obj m) s.b with
    |none=>rfl
    |some x=>exact absurd (tE (.inl (by simp[h]))) ad
   ·refine(ab _).2.1 ?_;cases h:look (.obj m) s.e with
    |none=>rfl
    |some x=>exact absurd (tE (.inr (by simp[h]))) ad
 have jf:∀m,(ν.bx (.obj m)≠none∨ν.ow (.obj m)≠none)→ .obj m∈cZ s:=by
  intro m hm;refine Classical.byContradiction fun ar=>?_;obtain⟨J,U,_⟩:=oD (.obj m) ⟨trivial,ar⟩;rcases hm with hm|hm
  ·exact hm J
  ·exact hm U
 have oF:cX X ⟨jP 0 args,s.b,s.e,0,cZ s⟩ {tmps:=a7++Array.replicate (fn.ntmps-a7.size) undef,defers:=[]} w ν:=by
  refine⟨⟨aR.alt,fun k cs ad=>?_,aR.inj,fun g o eD=>?_,aR.oinj,aR.obx,aR.one,aR.otr⟩,⟨rfl,rfl,rfl,ff _,fun _ _ _=>rfl,fun b o h=>⟨h,rfl⟩,fun b o h=>.inl h,fun n b h=>h,fun n b h=>jf n (.inl (by rw[h];simp)),fun m n u h=>⟨n,u,h,.inl ⟨rfl,rfl⟩⟩,fun m n u h=>jf m (.inr (by rw[h];simp)),fun k j _ _ b h=>absurd h ((ab k).2.2 j b),fun k j b h=>absurd h ((ab k).2.2 j b),fun k j b h=>absurd h ((ab k).2.2 j b),fun _ _ _=>rfl⟩,rfl,?_,fun i=>?_,oD⟩
  ·obtain⟨bl,us,el,g1,g2,g3⟩:=aR.box k cs ad;exact⟨bl,us,el,g1,.inl g2,g3⟩
  ·obtain⟨v,us,g1,g2,g3,g4⟩:=aR.own g o eD;exact⟨v,us,g1,g2,fun bl fD=>⟨.inl (g3 bl fD).1,(g3 bl fD).2⟩,g4⟩
  ·show(a7++Array.replicate (fn.ntmps-a7.size) undef).size=fn.ntmps;simp;omega
  ·rw[Fy];by_cases hi:i<args.length
   ·rw[if_pos (by omega)];have qS:args[i]? =some args[i]:=cb hi;obtain⟨v,ai,ax⟩:=DT i aK qS;have aI:(a7++Array.replicate (fn.ntmps-a7.size) undef).getD i undef=v:=by
     have B4:a7[i]? =some v:=by simpa using ai
     rw[Array.getD_eq_getD_getElem?,Array.getElem?_append_left (by omega),B4];rfl
    show a6 w ν _ ((a7++Array.replicate (fn.ntmps-a7.size) undef).getD i undef);rw[aI];simpa[List.getD,qS]using ax
   ·rw[if_neg (by omega)];simp[a6]
 have uD:=he (M9 aK) (fun j cs ag=>by obtain⟨bl,us,el,_,_,_,_,g5⟩:=aR.box j cs ag;exact WV g5);have K5:=qM hm aL (X:=X) c code (cJ eG s Q) _ ar uD _ w ν oF;refine calls_of_wp aO ae (wp_mono K5 fun e be w' cU=>?_);obtain⟨st',bg,⟨rP,bu⟩,c7⟩:=cU;cases rV:aT st' eG with
 |none=>simp[rV]at bu
 |some x=>
  obtain⟨cf,cq⟩:=x;simp only[rV]at bu;obtain⟨hh,s',kb,ke,aV,bf,bI,cN,c6⟩:=bu;obtain⟨nz,g1,g2⟩:=HG aL c7 eG fn.results.toList cf cq Ab rV hh;have KS:=yL g2;have dz:be.defers=[]∧∃v,(results fn be.tmps).run P w'= .ok v w'∧(fun(e:Ending) w'=> ∃v r s' bg,e= .returned v∧Q r s'∧a6 w' bg r v∧Good (fun bl=>fl ν s bl∨w.heap.size≤bl) w' bg s'.b s'.e∧ov bg s'∧iE s'∧pN ⟨w,ν,fl ν s,0,cZ s⟩ w' bg) (.returned v) w':=by
   refine⟨c7.defers,?_⟩;have im:(results fn be.tmps).run P w'= .ok (if h:nz.toArray.size=1 then nz.toArray[0]else .tuple nz.toArray) w':=by rw[W8];simp only[fI,Array.mapM_eq_mapM_toList,Sem.run_map,g1,fQ,gq]
   refine⟨_,im,_,dU (aQ cq),s',bg.cut (inObs s'),rfl,c6,?_,c7.good.cut aV bf (fun bl h _=>h),?_,bI,?_⟩
   ·have lO:a6 w' bg (aQ cq) (if h:nz.toArray.size=1 then nz.toArray[0]else .tuple nz.toArray):=by
     match cq,nz,g2,KS with
     |[p],[v],g2,_=>simp only[cK]at g2;obtain⟨u,b8,ai,ax,_⟩:=g2;cases ai;simpa[aQ]using ax
     |[],[],g2,_=>simp[aQ,a6,cK]
     |p::da::cq,v::v2::nz,g2,_=>rw[dif_neg (by simp)];simp only[aQ,a6];exact⟨_,rfl,by simpa using g2⟩
     |[_],[],_,h=>simp at h
     |[],_::_,_,h=>simp at h
     |[_],_::_::_,_,h=>simp at h
     |_::_::_,[],_,h=>simp at h
     |_::_::_,[_],_,h=>simp at h
    exact kn (od.cut _ w' bg) _ _ cN (k1 _ _ lO)
   ·intro k;refine⟨?_,?_,?_⟩;rotate_left 2
    ·rintro j b ⟨af,ae⟩;obtain⟨t1,t2⟩:=c7.fr.trn k j b ae;rcases af with af|af<;>obtain⟨x,iq⟩:=fB.1 af
     ·obtain⟨bl,b8,el,ai,_⟩:=c7.good.box k x (aV k x iq).1;rw[t1]at ai;cases ai
     ·obtain⟨v',b8,ai,_⟩:=c7.good.own k x (bf k x iq).1;rw[t2]at ai;cases ai
    ·intro ad;by_cases af:inObs s' k
     ·rw[a8.cut_bx af];rcases af with af|af
      ·rw[ad]at af;cases af
      ·obtain⟨x,iq⟩:=fB.1 af;obtain⟨v',b8,ai,_⟩:=c7.good.own k x (bf k x iq).1;rcases c7.good.one k with J|J
       ·exact J
       ·rw[J]at ai;cases ai
     ·exact(a8.cut_no af).1
    ·intro ad;by_cases af:inObs s' k
     ·rw[a8.cut_ow af];rcases af with af|af
      ·obtain⟨x,iq⟩:=fB.1 af;obtain⟨bl,b8,el,ai,_⟩:=c7.good.box k x (aV k x iq).1;rcases c7.good.one k with J|J
       ·rw[J]at ai;cases ai
       ·exact J
      ·rw[ad]at af;cases af
     ·exact(a8.cut_no af).2.1
   ·refine⟨c7.fr.os,c7.fr.tape,c7.fr.output,c7.fr.size,c7.fr.block,c7.fr.keep,c7.fr.fresh,fun n b h=>?_,fun n b h=>jf n (.inl (by rw[h];simp)),fun m n u h=>?_,fun m n u h=>jf m (.inr (by rw[h];simp)),fun k j k' dB b J U=>c7.fr.trd k j k' dB b J.2 U.2,fun k j b ae=>c7.fr.trb k j b ae.2,fun k j b ae=>(by rw[a8.cut_bx ae.1,a8.cut_ow ae.1];exact c7.fr.trn k j b ae.2),c7.fr.sh⟩
    ·have af:inObs s' (.obj n):=by
      cases aq:look (.obj n) s.b with
      |none=>rw[(ab _).1 aq]at h;cases h
      |some x=>exact Av kb _ (by simp[aq])
     rw[a8.cut_bx af];exact c7.fr.obj n b h
    ·have af:inObs s' (.obj m):=by
      cases aq:look (.obj m) s.e with
      |none=>rw[(ab _).2.1 aq]at h;cases h
      |some x=>exact Av ke _ (by simp[aq])
     rw[a8.cut_ow af];exact c7.fr.row m n u h
  rcases rP with rfl|rfl<;>exact dz
def b4(bs:List (Nat×dx))(c:C)(eG:List bA)(ahI:Nat)(fn:Func):Bool:=
 match fn.body with
 |some code=>hC fn.ntmps bs c code&&q8 bs eG fn.results.toList&& !(fn.name== "runtime.NumGoroutine")&&decide (ahI≤fn.ntmps)
 |none=>false
theorem bC.mk{P:cA}(hm:P.follows .mixedOrders=true){bs:List (Nat×dx)}(aL:fP P bs=true){f:FuncId}{fn:Func}(aO:P.funcs[f]? =some fn){c:C}{eG:List bA}{n:Nat}(dT:b4 bs c eG n fn=true)
  {args:List ah} (aq:args.length≤n) {s:cI} (pk:iE s) {Q:ah→cI→Prop} (he:gD args→(∀j cs,look j s.b=some cs→h2 cs=true→gx cs)→c1 P (cZ s) c (cJ eG s Q) ⟨jP 0 args,s.b,s.e,0,cZ s⟩):bC P f args s Q:=by
 unfold b4 at dT;split at dT
 ·rename_i code ae;simp only[cx,rk,fo]at dT;obtain⟨⟨⟨J,U⟩,ao⟩,a1⟩:=dT;exact bC.of hm aL aO ae ao J U (jR aq a1) pk he
 ·cases dT
theorem u5:iE ⟨[],[]⟩:=⟨fun _=>rfl,fun _=>rfl⟩
def bp(eG:List bA)(r:ah)(e:Exit)(st:bh):Prop:=
 (e= .ret∨e= .normal)∧match aT st eG with
  |some (c,cq)=>c∧dU (aQ cq)=r
  |none=>ep
theorem bS.mk{P:cA}(hm:P.follows .mixedOrders=true){bs:List (Nat×dx)}(aL:fP P bs=true){f:FuncId}{fn:Func}(aO:P.funcs[f]? =some fn){c:C}{eG:List bA}{n:Nat}(dT:b4 bs c eG n fn=true)
  {args:List ah} (aq:args.length≤n) {r:ah} (aK:aH (fun _=>ep) r) (he:gD args→c1 P [] c (bp eG r) ⟨jP 0 args,[],[],0,[]⟩):bS P f args r:=by
 refine bC.mk hm aL aO dT aq u5 fun J _=>?_;have:=he J;have ia:bp eG r=cJ eG ⟨[],[]⟩ (fun eg s'=>eg=r∧s'=⟨[],[]⟩):=by
  funext e st;unfold bp cJ;apply propext;refine and_congr_right fun _=>?_;cases aT st eG with
  |none=>exact Iff.rfl
  |some x=>
   obtain⟨c,cq⟩:=x;refine and_congr_right fun _=>?_;constructor
   ·intro h;refine⟨⟨[],[]⟩,trivial,trivial,fun k cs ad=>by simp[look]at ad,fun k cs ad=>by simp[look]at ad,u5,?_,h,rfl⟩;rw[h];exact wA (fun k ad=>ad.elim) r aK
   ·rintro⟨s',_,_,_,_,_,_,h,_⟩;exact h
 rw[ia]at this;exact this
theorem N7{α:Type}{β:Type}:∀l:List (aJ×α),b0 ([]:List (aJ×β)) l=l
 |[]=>rfl
 |(k,x)::r=>by simp[b0,look,N7 r]
theorem cM.val{P:cA}{n:Nat}{args:List ah}{st:bh}{d:Option Nat}{K:bh→Prop}{r:ah}(ad:aN (fun _=>ep) args)(aO:bS P n args r)(h:K {st with t:=eS d r st.t}):cM P n args st d K:=by
 refine .inl ⟨⟨[],[]⟩,_,fun k cs ad=>by simp[look]at ad,fun k cs ad=>by simp[look]at ad,u5,jX (fun _ h=>h.elim) _ ad,aO,?_⟩;rintro eg s' ⟨rfl,rfl⟩;refine⟨⟨fun m h=>by simp[look]at h,fun m h=>by simp[look]at h⟩,?_⟩;have:after st ⟨[],[]⟩ ⟨[],[]⟩ d eg={st with t:=eS d eg st.t}:=by simp[after,N7,cZ]
 rw[this];exact h
@[reducible,simp] def dN(n:Int):dq:= .c (.int .i64 n)
@[reducible,simp] def I(a b:Nat):c5:=⟨none,.s (.v a (.mov (.t b)))⟩
@[reducible,simp] def bW(a:Nat)(i:fX):c5:=⟨none,.s (.v a i)⟩
@[reducible,simp] def c0(i:eh):c5:=⟨none,.s i⟩
@[reducible,simp] def cT(a f:Nat)(l:List dq):c5:=⟨none,.call (some a) (.c (.func f [])) l⟩
@[reducible,simp] def bZ(j:Nat)(w:Bool)(a b:Nat):c5:=⟨some (j,w),.s (.v a (.mov (.t b)))⟩
@[reducible,simp] def xe(j:Nat)(w:Bool)(a:Nat)(i:fX):c5:=⟨some (j,w),.s (.v a i)⟩
@[reducible,simp] def ys(j:Nat)(w:Bool)(i:eh):c5:=⟨some (j,w),.s i⟩
@[reducible,simp] def cw(d s a b:Nat):c5:=bW d (.iaddr s (.t a) (.t b))
@[reducible,simp] def aw(d s a:Nat):c5:=bW d (.load false s (.t a))
@[reducible,simp] def aX(d s a:Nat):c5:=bW d (.load true s (.t a))
@[reducible,simp] def aF(d o s a:Nat):c5:=bW d (.faddr o false s (.t a))
@[reducible,simp] def iv(d o s a:Nat):c5:=bW d (.faddr o true s (.t a))
@[reducible,simp] def br(d:Nat)(o:BinOp)(a b:Nat):c5:=bW d (.bin o false (.t a) (.t b))
@[reducible,simp] def aU(d:Nat)(o:BinOp)(a:Nat)(n:Int):c5:=bW d (.bin o false (.t a) (dN n))
@[reducible,simp] def cv(d a:Nat):c5:=bW d (.len (.t a))
@[reducible,simp] def ct(d a:Nat):c5:=bW d (.notB (.t a))
@[reducible,simp] def cd(d i a:Nat):c5:=bW d (.ext i (.t a))
@[reducible,simp] def cW(d a b:Nat):c5:=bW d (.pick (.t a) (.c (.bool true)) (.t b))
@[reducible,simp] def dv(d a b:Nat):c5:=bW d (.pick (.t a) (.t b) (.c (.bool false)))
@[reducible,simp] def bj(d:Nat)(b:Bool):c5:=bW d (.mov (.c (.bool b)))
@[reducible,simp] def cc(d:Nat)(n:Int):c5:=bW d (.mov (dN n))
@[reducible,simp] def bz(s a b:Nat):c5:=c0 (.store s (.t a) (.t b))
@[reducible,simp] def al(j:Nat)(w:Bool)(x:c5):c5:=⟨some (j,w),x.i⟩
@[reducible,simp] def aa(l:List c5)(c:C):C:= .seq (.region l) c
@[reducible,simp] def aZ(n:Nat)(a b:C):C:= .cond (.t n) a b
@[reducible,simp] def gK(d a:Nat)(l:List dq):c5:=⟨none,.call (some d) (.t a) l⟩
@[reducible,simp] def cL(d f a:Nat):c5:=cT d f [.t a]
@[reducible,simp] def ck(d f a b:Nat):c5:=cT d f [.t a,.t b]
@[reducible,simp] def du:List ah:=[.int .i64 0,.int .i64 0,.str [],.slice 4 .nil []]
@[reducible,simp] def kj:List ah:=[.int .i64 0,.int .i64 0,.int .i64 0,.str [],.slice 4 .nil []]
@[reducible,simp] def e1:List ah:=[.int .i64 0,.slice 5 .nil [],.slice 1 .nil [],.slice 2 .nil [],.slice 2 .nil []]
@[reducible,simp] def cO(a b:Nat):c5:=c0 (.box a none (.t b))
@[reducible,simp] def cS(a:Nat)(l:List ah):c5:=c0 (.alloc a none (.agg l))
@[reducible,simp] def eJ(a n:Nat):c5:=bW a (.mov (.c (.slice n .nil [])))
@[reducible,simp] def gO(a b c d e:Nat):c5:=c0 (.app a b c (.t d) (.t e))
@[reducible,simp] def eb(a b c:Nat)(l:List dq):c5:=c0 (.bsl a b c l)
@[reducible,simp] def eI(a b:Nat):c5:=bW a (.nck (.t b))
@[reducible,simp] def jQ(d s a:Nat)(n:Int):c5:=bW d (.iaddr s (.t a) (dN n))
@[reducible,simp] def gJ(d:Nat)(l:List ah)(m:List (Nat×Nat×dq)):c5:=bW d (.build l m)
@[reducible,simp] def fe(a b c:Nat)(x:C):C:= .block 0 (.loop (aa [br a .lss b c] (.seq (aZ a .skip (.exit 0)) x)))
end Go.Pv
namespace Go.Proofs.YtohaalphocaebaaGreat
open Go Go.Pv
def I6:C:=(aa [bj 2 false] (.seq (aa [I 5 0,cv 6 5,cc 7 0] (fe 8 7 6 (.seq (.block 1 (aa [cw 9 4 5 7,aX 10 4 9,cS 4 du,bz 4 4 10] (aa [aX 11 4 4,cL 12 117 11,ct 13 12] (aZ 13 (aa [bj 2 false] .ret) .skip)))) (.region [aU 14 .add 7 1,I 7 14])))) (aa [bj 2 true] .ret)))
@[simp] def akh:List bA:=[.tmp 2]
def zm:C:=(aa [cO 1 0,cS 2 du] (aa [aF 6 0 1 1,aw 7 1 6,aF 8 1 1 1,aw 9 1 8,aF 10 2 1 1,aw 11 1 10,gJ 12 du [(0,1,(.t 7)),(1,1,(.t 9)),(2,1,(.t 11))],cS 3 du,bz 4 3 12] (.seq (aa [aF 13 3 1 1,aw 14 1 13,cv 15 14,cc 16 0] (fe 17 16 15 (.seq (.block 1 (aa [cw 18 4 14 16,aX 19 4 18,cS 5 du,bz 4 5 19] (.drawn true 29 [aF 20 3 1 3,aw 21 1 20,aX 22 4 5,cL 23 74 22,eb 24 4 32 [.t 23],gO 25 4 32 21 24,aF 26 3 1 3,bz 1 26 25]))) (.region [aU 27 .add 16 1,I 16 27])))) (aa [aX 28 4 3,bz 4 2 28] .ret))))
@[simp] def aky:List bA:=[.cell 2 true 4]
def Jg:C:=(aa [cS 2 du] (aa [I 3 0,gJ 4 du [(0,1,(dN 1)),(1,1,(.t 3))],bz 4 2 4] .ret))
@[simp] def WJ:List bA:=[.cell 2 true 4]
def PI:C:=(aa [c0 (.box 2 (some 201) (.t 0)),cO 3 1,cS 4 du,bj 5 false] (aa [aX 6 4 3,bW 7 (.mkf 182 [.t 2]),ck 8 181 6 7,cd 9 0 8,cd 10 1 8,bz 4 4 9,I 5 10] .ret))
@[simp] def Wl:List bA:=[.cell 4 true 4,.tmp 5]
def Pk:C:=(aa [bj 2 false] (.seq (aa [I 5 0,cv 6 5,aU 7 .gtr 6 400] (aZ 7 (aa [bj 2 false] .ret) .skip)) (.seq (aa [I 8 0,cv 9 8,cc 10 0] (fe 11 10 9 (.seq (.block 1 (aa [I 12 10,cw 13 5 8 10,aX 14 5 13,cS 4 kj,I 3 12,bz 5 4 14] (.seq (.drawn true 45 [aF 15 0 1 4,aw 16 1 15,aU 17 .lss 16 0,I 18 17,al 18 false (aF 19 0 1 4),al 18 false (aw 20 1 19),al 18 false (aU 21 .gtr 20 100000),cW 22 18 21,I 23 22,bZ 23 false 24 3,al 23 false (aU 25 .gtr 24 0),bZ 23 false 26 25,bZ 26 true 27 0,bZ 26 true 28 3,al 26 true (aU 29 .sub 28 1),al 26 true (cw 30 5 27 29),al 26 true (aF 31 0 1 30),al 26 true (aw 32 1 31),al 26 true (aF 33 0 1 4),al 26 true (aw 34 1 33),al 26 true (br 35 .geq 32 34),al 23 false (dv 36 26 35),cW 37 23 36,I 38 37,al 38 false (iv 39 1 4 4),al 38 false (aX 40 4 39),al 38 false (cL 41 117 40),al 38 false (ct 42 41),cW 43 38 42]) (aZ 43 (aa [bj 2 false] .ret) .skip)))) (.region [aU 44 .add 10 1,I 10 44])))) (aa [bj 2 true] .ret))))
@[simp] def Hb:List bA:=[.tmp 2]
def Py:C:=(aa [cO 2 0,cO 3 1,bj 4 false] (aa [aX 5 4 2,aX 6 4 3,ck 7 170 5 6,aU 8 .eql 7 0,I 4 8] .ret))
@[simp] def We:List bA:=[.tmp 4]
def Qy:C:=(aa [cO 2 0,cO 3 1,cS 4 du] (aa [aX 5 4 2,aX 6 4 3,eb 7 4 32 [.t 5,.t 6],gJ 8 du [(0,1,(dN 4)),(3,1,(.t 7))],bz 4 4 8] .ret))
@[simp] def WE:List bA:=[.cell 4 true 4]
def Ph:C:=(aa [cO 1 0,bj 2 false] (aa [aX 3 4 1,cT 4 194 [.t 3,(dN 5000)],aU 5 .gtr 4 0,I 2 5] .ret))
@[simp] def V4:List bA:=[.tmp 2]
def O8:C:=(aa [bj 2 false] (.seq (aa [I 4 0,bW 5 (.slen (.t 4)),aU 6 .lss 5 1,I 7 6,bZ 7 false 8 0,al 7 false (bW 9 (.slen (.t 8))),al 7 false (aU 10 .gtr 9 12),cW 11 7 10,I 12 11,bZ 12 false 13 0,al 12 false (bW 14 (.sidx (.t 13) (dN 0))),al 12 false (bW 15 (.bin .lss false (.t 14) (.c (.int .u8 97)))),cW 16 12 15,I 17 16,bZ 17 false 18 0,al 17 false (bW 19 (.sidx (.t 18) (dN 0))),al 17 false (bW 20 (.bin .gtr false (.t 19) (.c (.int .u8 122)))),cW 21 17 20] (aZ 21 (aa [bj 2 false] .ret) .skip)) (.seq (aa [cc 3 1] (.block 0 (.loop (.seq (aa [I 22 3,I 23 0,bW 24 (.slen (.t 23)),br 25 .lss 22 24] (aZ 25 .skip (.exit 0))) (.seq (.block 1 (aa [I 28 0,I 29 3,bW 30 (.sidx (.t 28) (.t 29)),bW 31 (.bin .geq false (.t 30) (.c (.int .u8 97))),I 32 31,bZ 32 true 33 0,bZ 32 true 34 3,al 32 true (bW 35 (.sidx (.t 33) (.t 34))),al 32 true (bW 36 (.bin .leq false (.t 35) (.c (.int .u8 122)))),dv 37 32 36,I 38 37,bZ 38 false 39 0,bZ 38 false 40 3,al 38 false (bW 41 (.sidx (.t 39) (.t 40))),al 38 false (bW 42 (.bin .geq false (.t 41) (.c (.int .u8 48)))),bZ 38 false 43 42,bZ 43 true 44 0,bZ 43 true 45 3,al 43 true (bW 46 (.sidx (.t 44) (.t 45))),al 43 true (bW 47 (.bin .leq false (.t 46) (.c (.int .u8 57)))),al 38 false (dv 48 43 47),cW 49 38 48,I 50 49,bZ 50 false 51 0,bZ 50 false 52 3,al 50 false (bW 53 (.sidx (.t 51) (.t 52))),al 50 false (bW 54 (.bin .eql false (.t 53) (.c (.int .u8 45)))),cW 55 50 54,ct 56 55] (aZ 56 (aa [bj 2 false] .ret) .skip))) (.region [I 26 3,aU 27 .add 26 1,I 3 27])))))) (aa [bj 2 true] .ret))))
@[simp] def Ha:List bA:=[.tmp 2]
def xw:C:=(aa [cO 2 0] (.seq (aa [aF 4 0 1 2,aw 5 1 4,aU 6 .eql 5 1] (aZ 6 (.region [I 7 1,aF 8 1 1 2,aw 9 1 8,gK 10 7 [.t 9]]) .skip)) (aa [aF 11 0 1 2,aw 12 1 11,aU 13 .eql 12 4] (aZ 13 (aa [aF 14 3 1 2,aw 15 1 14,jQ 16 4 15 0,aX 17 4 16,I 18 1,ck 19 129 17 18] (.region [aF 20 3 1 2,aw 21 1 20,jQ 22 4 21 1,aX 23 4 22,I 24 1,ck 25 129 23 24])) .skip))))
@[simp] def yF:List bA:=[]
def PA:C:=(aa [c0 (.box 2 (some 101) (.t 0)),c0 (.box 3 (some 102) (.t 1)),cc 4 0] (aa [aw 6 1 2,cv 7 6,bW 8 (.mkf 212 [.t 2,.t 3]),ck 9 211 7 8,I 5 9] (.seq (.seq (.drawn true 24 [I 10 5,aw 11 1 2,cv 12 11,br 13 .lss 10 12,I 14 13,al 14 true (aw 15 1 2),bZ 14 true 16 5,al 14 true (cw 17 5 15 16),al 14 true (aF 18 0 1 17),al 14 true (aw 19 1 18),al 14 true (aw 20 1 3),al 14 true (br 21 .eql 19 20),dv 22 14 21]) (aZ 22 (aa [I 23 5,I 4 23] .ret) .skip)) (aa [cc 4 (-1)] .ret))))
@[simp] def Wg:List bA:=[.tmp 4]
def xx:C:=(aa [cO 2 0,cS 4 du] (.seq (aa [aF 7 0 1 2,aw 8 1 7] (.block 0 (aa [aU 10 .eql 8 1,I 9 10] (aZ 9 (.seq (aa [I 12 1,aF 13 1 1 2,aw 14 1 13,gK 15 12 [.t 14],I 11 15,cd 16 0 11,cd 17 1 11,cS 5 du,bz 4 5 16,I 6 17] (aa [I 18 6] (aZ 18 (aa [aX 19 4 5,cL 20 200 19,bz 4 4 20] .ret) .skip))) (aa [aX 21 4 2,bz 4 4 21] .ret)) (aa [aU 23 .eql 8 4,I 22 23] (aZ 22 (.seq (.drawn false 38 [aF 24 3 1 2,aw 25 1 24,jQ 26 4 25 0,aX 27 4 26,I 28 1,ck 29 153 27 28,aF 30 3 1 2,aw 31 1 30,jQ 32 4 31 1,aX 33 4 32,I 34 1,ck 35 153 33 34,ck 36 225 29 35,bz 4 4 36]) .ret) .skip)))))) (aa [aX 37 4 2,bz 4 4 37] .ret)))
@[simp] def yG:List bA:=[.cell 4 true 4]
def EZ:C:=(aa [cO 2 0,cO 3 1,cc 4 0] (.seq (aa [aF 6 0 1 2,aw 7 1 6,aF 8 0 1 3,aw 9 1 8,br 10 .neq 7 9] (aZ 10 (aa [aF 11 0 1 2,aw 12 1 11,aF 13 0 1 3,aw 14 1 13,ck 15 232 12 14,I 4 15] .ret) .skip)) (.seq (aa [aF 16 1 1 2,aw 17 1 16,aF 18 1 1 3,aw 19 1 18,br 20 .neq 17 19] (aZ 20 (aa [aF 21 1 1 2,aw 22 1 21,aF 23 1 1 3,aw 24 1 23,ck 25 232 22 24,I 4 25] .ret) .skip)) (.seq (aa [aF 26 2 1 2,aw 27 1 26,aF 28 2 1 3,aw 29 1 28,br 30 .neq 27 29] (aZ 30 (.seq (aa [aF 31 2 1 2,aw 32 1 31,aF 33 2 1 3,aw 34 1 33,br 35 .lss 32 34] (aZ 35 (aa [cc 4 (-1)] .ret) .skip)) (aa [cc 4 1] .ret)) .skip)) (.seq (aa [aF 36 0 1 2,aw 37 1 36,aU 38 .neq 37 4] (aZ 38 (aa [cc 4 0] .ret) .skip)) (.seq (.seq (.drawn true 60 [aF 39 3 1 2,aw 40 1 39,jQ 41 4 40 0,aX 42 4 41,aF 43 3 1 3,aw 44 1 43,jQ 45 4 44 0,aX 46 4 45,ck 47 170 42 46,I 5 47]) (aa [I 48 5,aU 49 .neq 48 0] (aZ 49 (aa [I 50 5,I 4 50] .ret) .skip))) (.seq (.drawn true 60 [aF 51 3 1 2,aw 52 1 51,jQ 53 4 52 1,aX 54 4 53,aF 55 3 1 3,aw 56 1 55,jQ 57 4 56 1,aX 58 4 57,ck 59 170 54 58,I 4 59]) .ret)))))))
@[simp] def Hh:List bA:=[.tmp 4]
def PK:C:=(aa [cO 2 0,c0 (.box 3 (some 202) (.t 1)),cS 4 du,bj 5 false] (aa [aX 7 4 2,bW 8 (.mkf 240 [.t 3]),ck 9 239 7 8,I 6 9] (.seq (aa [I 10 6,aU 11 .gtr 10 5000] (aZ 11 (aa [gJ 12 du [],bz 4 4 12,bj 5 false] .ret) .skip)) (aa [aX 13 4 2,aw 14 1 3,ck 15 153 13 14,bz 4 4 15,bj 5 true] .ret))))
@[simp] def MF:List bA:=[.cell 4 true 4,.tmp 5]
def PJ:C:=(aa [cS 3 du,bj 4 false] (.seq (aa [aw 6 1 1,I 7 0,ck 8 134 6 7,I 5 8] (aa [I 9 5,aU 10 .geq 9 0] (aZ 10 (aa [aw 11 1 1,I 12 5,cw 13 5 11 12,iv 14 1 4 13,aX 15 4 14,bz 4 3 15,bj 4 true] .ret) .skip))) (aa [gJ 16 du [],bz 4 3 16,bj 4 false] .ret)))
@[simp] def ME:List bA:=[.cell 3 true 4,.tmp 4]
def PN:C:=(aa [eJ 2 1] (aa [c0 (.bslm 5 (some 306) 1 3 []),I 3 5] (.seq (aa [I 6 0,c0 (.range 7 none (.t 6))] (.block 0 (.loop (aa [⟨none,.next 8 (.t 7)⟩,cd 9 0 8] (.seq (aZ 9 .skip (.exit 0)) (.block 1 (aa [bW 10 (.ment (.t 7)),cd 11 0 10,I 4 11] (.region [I 12 3,I 13 4,eb 14 1 3 [.t 13],c0 (.appm 15 none 1 3 (.t 12) (.t 14)),I 3 15])))))))) (aa [I 16 3,cL 17 242 16] (.seq (.pub 3 (.region [I 18 3,I 2 18])) .ret)))))
@[simp] def Wn:List bA:=[.tmp 2]
def PE:C:=(aa [cO 2 0,cc 4 0] (.seq (aa [I 7 1,aU 8 .lss 7 1] (aZ 8 (aa [cc 4 (-1)] .ret) .skip)) (.seq (aa [aF 9 0 1 2,aw 10 1 9,aU 11 .neq 10 4] (aZ 11 (.seq (aa [aF 12 3 1 2,aw 13 1 12,cv 14 13,aU 15 .neq 14 0] (aZ 15 (aa [cc 4 (-1)] .ret) .skip)) (.seq (aa [aF 16 0 1 2,aw 17 1 16] (.block 0 (aa [aU 19 .eql 17 0,I 18 19] (aZ 18 (aa [aF 20 1 1 2,aw 21 1 20,aU 22 .neq 21 0,I 23 22,al 23 false (aF 24 2 1 2),al 23 false (aw 25 1 24),xe 23 false 26 (.bin .neq false (.t 25) (.c (.str []))),cW 27 23 26] (aZ 27 (aa [cc 4 (-1)] .ret) .skip)) (aa [aU 29 .eql 17 1,I 28 29] (aZ 28 (aa [aF 30 1 1 2,aw 31 1 30,aU 32 .lss 31 0,I 33 32,al 33 false (aF 34 1 1 2),al 33 false (aw 35 1 34),al 33 false (aU 36 .gtr 35 100000),cW 37 33 36,I 38 37,al 38 false (aF 39 2 1 2),al 38 false (aw 40 1 39),xe 38 false 41 (.bin .neq false (.t 40) (.c (.str []))),cW 42 38 41] (aZ 42 (aa [cc 4 (-1)] .ret) .skip)) (aa [aU 44 .eql 17 2,I 43 44] (aZ 43 (aa [aF 45 1 1 2,aw 46 1 45,aU 47 .neq 46 0,I 48 47,al 48 false (aF 49 2 1 2),al 48 false (aw 50 1 49),al 48 false (cL 51 128 50),al 48 false (ct 52 51),cW 53 48 52] (aZ 53 (aa [cc 4 (-1)] .ret) .skip)) (aa [aU 55 .eql 17 3,I 54 55] (aZ 54 (aa [aF 56 1 1 2,aw 57 1 56,aU 58 .lss 57 (-1000000000),I 59 58,al 59 false (aF 60 1 1 2),al 59 false (aw 61 1 60),al 59 false (aU 62 .gtr 61 1000000000),cW 63 59 62,I 64 63,al 64 false (aF 65 2 1 2),al 64 false (aw 66 1 65),xe 64 false 67 (.bin .neq false (.t 66) (.c (.str []))),cW 68 64 67] (aZ 68 (aa [cc 4 (-1)] .ret) .skip)) (aa [cc 4 (-1)] .ret))))))))))) (aa [cc 4 1] .ret))) .skip)) (.seq (aa [aF 69 1 1 2,aw 70 1 69,aU 71 .neq 70 0,I 72 71,al 72 false (aF 73 2 1 2),al 72 false (aw 74 1 73),xe 72 false 75 (.bin .neq false (.t 74) (.c (.str []))),cW 76 72 75,I 77 76,al 77 false (aF 78 3 1 2),al 77 false (aw 79 1 78),al 77 false (cv 80 79),al 77 false (aU 81 .neq 80 2),cW 82 77 81] (aZ 82 (aa [cc 4 (-1)] .ret) .skip)) (aa [aF 83 3 1 2,aw 84 1 83,jQ 85 4 84 0,aX 86 4 85,I 87 1,aU 88 .sub 87 1,ck 89 194 86 88,I 5 89] (.seq (aa [I 90 5,aU 91 .lss 90 0] (aZ 91 (aa [cc 4 (-1)] .ret) .skip)) (aa [aF 92 3 1 2,aw 93 1 92,jQ 94 4 93 1,aX 95 4 94,I 96 1,aU 97 .sub 96 1,I 98 5,br 99 .sub 97 98,ck 100 194 95 99,I 6 100] (.seq (aa [I 101 6,aU 102 .lss 101 0] (aZ 102 (aa [cc 4 (-1)] .ret) .skip)) (aa [I 103 5,bW 104 (.bin .add false (dN 1) (.t 103)),I 105 6,br 106 .add 104 105,I 4 106] .ret)))))))))
@[simp] def Hg:List bA:=[.tmp 4]
def I4:C:=(aa [cO 1 0,cS 2 du] (.seq (aa [aF 3 0 1 1,aw 4 1 3,aU 5 .neq 4 4] (aZ 5 (aa [aF 6 0 1 1,aw 7 1 6,aF 8 1 1 1,aw 9 1 8,aF 10 2 1 1,aw 11 1 10,gJ 12 du [(0,1,(.t 7)),(1,1,(.t 9)),(2,1,(.t 11))],bz 4 2 12] .ret) .skip)) (.seq (.drawn true 25 [aF 13 3 1 1,aw 14 1 13,jQ 15 4 14 0,aX 16 4 15,cL 17 200 16,aF 18 3 1 1,aw 19 1 18,jQ 20 4 19 1,aX 21 4 20,cL 22 200 21,eb 23 4 32 [.t 17,.t 22],gJ 24 du [(0,1,(dN 4)),(3,1,(.t 23))],bz 4 2 24]) .ret)))
@[simp] def ake:List bA:=[.cell 2 true 4]
def PW:C:=(aa [cc 4 0] (aa [I 8 0,cc 5 0,I 6 8] (.seq (.block 0 (.loop (.seq (aa [I 9 5,I 10 6,br 11 .lss 9 10] (aZ 11 .skip (.exit 0))) (.block 1 (aa [I 12 5,I 13 6,br 14 .add 12 13,bW 15 (.conv .u64 (.t 14)),bW 16 (.bin .shr false (.t 15) (.c (.int .u64 1))),bW 17 (.conv .i64 (.t 16)),I 7 17] (aa [I 18 1,I 19 7,gK 20 18 [.t 19],ct 21 20] (aZ 21 (.region [I 22 7,aU 23 .add 22 1,I 5 23]) (.region [I 24 7,I 6 24])))))))) (aa [I 25 5,I 4 25] .ret))))
@[simp] def Wp:List bA:=[.tmp 4]
def PB:C:=(aa [bj 4 false] (.seq (.drawn true 12 [aw 5 1 1,I 6 0,cw 7 5 5 6,aF 8 0 1 7,aw 9 1 8,aw 10 1 2,br 11 .geq 9 10,I 4 11]) .ret))
@[simp] def Wh:List bA:=[.tmp 4]
def PH:C:=(aa [cO 2 0,cO 3 1,cS 4 du] (aa [aX 5 4 2,aX 6 4 3,eb 7 4 32 [.t 5,.t 6],gJ 8 du [(0,1,(dN 4)),(3,1,(.t 7))],bz 4 4 8] .ret))
@[simp] def Wk:List bA:=[.cell 4 true 4]
def PG:C:=(aa [cc 4 0] (.seq (aa [I 5 0,I 6 1,br 7 .lss 5 6] (aZ 7 (aa [cc 4 (-1)] .ret) .skip)) (.seq (aa [I 8 0,I 9 1,br 10 .gtr 8 9] (aZ 10 (aa [cc 4 1] .ret) .skip)) (aa [cc 4 0] .ret))))
@[simp] def Wj:List bA:=[.tmp 4]
def vF:C:=(aa [cO 2 0,cc 4 0] (.seq (aa [aF 6 0 1 2,aw 7 1 6] (.block 0 (aa [aU 9 .eql 7 1,I 8 9] (aZ 8 (aa [I 10 1,aF 11 1 1 2,aw 12 1 11,gK 13 10 [.t 12],bW 14 (.min2 (.t 13) (dN 5001)),I 4 14] .ret) (aa [aU 16 .eql 7 4,I 15 16] (aZ 15 (aa [aF 17 3 1 2,aw 18 1 17,jQ 19 4 18 0,aX 20 4 19,I 21 1,ck 22 239 20 21,I 5 22] (.seq (aa [I 23 5,aU 24 .gtr 23 5000] (aZ 24 (aa [I 25 5,I 4 25] .ret) .skip)) (aa [I 26 5,bW 27 (.bin .add false (dN 1) (.t 26)),aF 28 3 1 2,aw 29 1 28,jQ 30 4 29 1,aX 31 4 30,I 32 1,ck 33 239 31 32,br 34 .add 27 33,bW 35 (.min2 (.t 34) (dN 5001)),I 4 35] .ret))) .skip)))))) (aa [cc 4 1] .ret)))
@[simp] def vc:List bA:=[.tmp 4]
def PL:C:=(aa [cc 3 0] (.seq (aa [aw 7 1 1,I 8 0,gK 9 7 [.t 8],I 6 9,cd 10 0 6,cd 11 1 6,cS 4 du,bz 4 4 10,I 5 11] (aa [I 12 5] (aZ 12 (aa [aX 13 4 4,cT 14 194 [.t 13,(dN 5000)],I 3 14] .ret) .skip))) (aa [cc 3 1] .ret)))
@[simp] def Wm:List bA:=[.tmp 3]
def bs:List (Nat×dx):=[
 (3,⟨1,8,.int .i64,.int .i64 0⟩),
 (9,⟨1,16,.str,.str []⟩),
 (23,⟨1,24,.slice 61,.slice 5 .nil []⟩),
 (30,⟨1,24,.slice 32,.slice 4 .nil []⟩),
 (32,⟨4,56,.struct [(0,3),(1,3),(2,9),(3,30)],.agg [.int .i64 0,.int .i64 0,.str [],.slice 4 .nil []]⟩),
 (61,⟨5,64,.struct [(0,3),(1,32)],.agg [.int .i64 0,.int .i64 0,.int .i64 0,.str [],.slice 4 .nil []]⟩),
 (112,⟨1,24,.slice 3,.slice 1 .nil []⟩),
 (154,⟨1,8,.map 3 4,.junk⟩),
 (163,⟨1,8,.int .u64,.int .u64 0⟩),
 (184,⟨1,8,.other,.junk⟩)]
theorem mixed:az.follows .mixedOrders=true:=by kernel_rfl
theorem bq{bs:List (Nat×dx)}(aL:fP az bs=true){f:FuncId}{fn:Func}(aO:az.funcs[f]? =some fn){c:C}{eG:List bA}{n:Nat}(dT:b4 bs c eG n fn=true){args:List ah}{r:ah}(he:gD args→c1 az [] c (bp eG r) ⟨jP 0 args,[],[],0,[]⟩)(aq:args.length≤n:=by simp)(aK:aH (fun _=>ep) r:=by simp[aH]):bS az f args r:=bS.mk mixed aL aO dT aq aK he
theorem fH:fP az bs=true:=by kernel_rfl
theorem Vv:b4 bs I6 akh 1 Tryz.f68=true:=by kernel_rfl
theorem RI:az.funcs[(68:Nat)]? =some Tryz.f68:=Tryz.func68
theorem Du:b4 bs zm aky 1 Tryz.f74=true:=by kernel_rfl
theorem Ca:az.funcs[(74:Nat)]? =some Tryz.f74:=Tryz.func74
theorem VA:b4 bs Jg WJ 1 Tryz.f91=true:=by kernel_rfl
theorem RN:az.funcs[(91:Nat)]? =some Tryz.f91:=Tryz.func91
theorem air:b4 bs PI Wl 2 Tryz.f95=true:=by kernel_rfl
theorem abG:az.funcs[(95:Nat)]? =some Tryz.f95:=Tryz.func95
theorem ah3:b4 bs Pk Hb 1 Tryz.f100=true:=by kernel_rfl
theorem abi:az.funcs[(100:Nat)]? =some Tryz.f100:=Tryz.func100
theorem aih:b4 bs Py We 2 Tryz.f108=true:=by kernel_rfl
theorem abw:az.funcs[(108:Nat)]? =some Tryz.f108:=Tryz.func108
theorem ajg:b4 bs Qy WE 2 Tryz.f114=true:=by kernel_rfl
theorem acy:az.funcs[(114:Nat)]? =some Tryz.f114:=Tryz.func114
theorem ah1:b4 bs Ph V4 1 Tryz.f117=true:=by kernel_rfl
theorem abg:az.funcs[(117:Nat)]? =some Tryz.f117:=Tryz.func117
theorem ahS:b4 bs O8 Ha 1 Tryz.f128=true:=by kernel_rfl
theorem aa7:az.funcs[(128:Nat)]? =some Tryz.f128:=Tryz.func128
theorem AV:b4 bs xw yF 2 Tryz.f129=true:=by kernel_rfl
theorem zx:az.funcs[(129:Nat)]? =some Tryz.f129:=Tryz.func129
theorem aij:b4 bs PA Wg 2 Tryz.f134=true:=by kernel_rfl
theorem aby:az.funcs[(134:Nat)]? =some Tryz.f134:=Tryz.func134
theorem AW:b4 bs xx yG 2 Tryz.f153=true:=by kernel_rfl
theorem zy:az.funcs[(153:Nat)]? =some Tryz.f153:=Tryz.func153
theorem Mf:b4 bs EZ Hh 2 Tryz.f170=true:=by kernel_rfl
theorem JP:az.funcs[(170:Nat)]? =some Tryz.f170:=Tryz.func170
theorem ait:b4 bs PK MF 2 Tryz.f181=true:=by kernel_rfl
theorem abI:az.funcs[(181:Nat)]? =some Tryz.f181:=Tryz.func181
theorem ais:b4 bs PJ ME 2 Tryz.f182=true:=by kernel_rfl
theorem abH:az.funcs[(182:Nat)]? =some Tryz.f182:=Tryz.func182
theorem aiw:b4 bs PN Wn 1 Tryz.f189=true:=by kernel_rfl
theorem abL:az.funcs[(189:Nat)]? =some Tryz.f189:=Tryz.func189
theorem ain:b4 bs PE Hg 2 Tryz.f194=true:=by kernel_rfl
theorem abC:az.funcs[(194:Nat)]? =some Tryz.f194:=Tryz.func194
theorem Vt:b4 bs I4 ake 1 Tryz.f200=true:=by kernel_rfl
theorem RG:az.funcs[(200:Nat)]? =some Tryz.f200:=Tryz.func200
theorem aiE:b4 bs PW Wp 2 Tryz.f211=true:=by kernel_rfl
theorem abT:az.funcs[(211:Nat)]? =some Tryz.f211:=Tryz.func211
theorem aik:b4 bs PB Wh 3 Tryz.f212=true:=by kernel_rfl
theorem abz:az.funcs[(212:Nat)]? =some Tryz.f212:=Tryz.func212
theorem aiq:b4 bs PH Wk 2 Tryz.f225=true:=by kernel_rfl
theorem abF:az.funcs[(225:Nat)]? =some Tryz.f225:=Tryz.func225
theorem aip:b4 bs PG Wj 2 Tryz.f232=true:=by kernel_rfl
theorem abE:az.funcs[(232:Nat)]? =some Tryz.f232:=Tryz.func232
theorem yz:b4 bs vF vc 2 Tryz.f239=true:=by kernel_rfl
theorem xD:az.funcs[(239:Nat)]? =some Tryz.f239:=Tryz.func239
theorem aiu:b4 bs PL Wm 2 Tryz.f240=true:=by kernel_rfl
theorem abJ:az.funcs[(240:Nat)]? =some Tryz.f240:=Tryz.func240
end Go.Proofs.YtohaalphocaebaaGreat
namespace Go.Pv
open Go Go.RowKit
theorem eZ{α:Type}{l:List α}{i:Nat}(h:i<l.length):∃b,l[i]? =some b∧∀h,(l[i]'h)=b:=⟨l[i],cb h,fun _=>rfl⟩
def Nh(st:bh)(i:eh):Prop:=match mg st i with|some (c,_)=>c|none=>ep
def Ni(st:bh)(i:eh):bh:=match mg st i with|some (_,s)=>s|none=>st
def Ey(P:cA)(r:List c5)(K:bh→Prop)(st:bh):Prop:=h8 P r st K
def zc(P:cA)(ob:List aJ)(c:C)(Q:Exit→bh→Prop)(st:bh):Prop:=c1 P ob c Q st
def pU(P:cA)(v:ah)(s:Nat)(w:Bool)(i:ed)(r:List c5)(st:bh)(K:bh→Prop):Prop:=
 match v with
 | .bool b=>(b=w→h8 P (⟨none,i⟩::r) {st with t:=put s (.bool w) st.t} K)∧(b= !w→h8 P r {st with t:=eS i.dst (.tuple []) (put s (.bool !w) st.t)} K)
 | .tuple []=>h8 P r {st with t:=eS i.dst (.tuple []) st.t} K
 |_=>ep
def uq(P:cA)(ob:List aJ)(v:ah)(x:dq)(t e:C)(Q:Exit→bh→Prop)(st:bh):Prop:=
 match v with
 | .bool b=>(b=true→c1 P ob t Q (sk st x true))∧(b=false→c1 P ob e Q (sk st x false))
 |_=>ep
def JF(P:cA)(v:ah)(d:Option Nat)(xs:List ah)(r:List c5)(st:bh)(K:bh→Prop):Prop:=
 match v with
 | .func n dj=>cM P n (di (xs++dj)) st d (Ey P r K)
 |_=>ep
section
variable {P:cA} {ob:List aJ} {st:bh} {K:bh→Prop} {r:List c5} {Q:Exit→bh→Prop} {a b c t e:C}
theorem aaS:h8 P [] st K=K st:=rfl
theorem aaT{i:eh}:h8 P (⟨none,.s i⟩::r) st K=(Nh st i∧h8 P r (Ni st i) K):=by
 simp only[h8,uo,Nh,Ni];cases mg st i with
 |none=>simp
 |some x=>rfl
theorem aaP{d:Option Nat}{f:dq}{xs:List dq}:h8 P (⟨none,.call d f xs⟩::r) st K=JF P (cj st.t f) d (xs.map (cj st.t)) r st K:=by simp only[h8,uo,JF];rfl
theorem aaR{d:Nat}{x:dq}:h8 P (⟨none,.next d x⟩::r) st K=sT st d (cj st.t x) (Ey P r K):=by simp only[h8,uo];rfl
def xi(P:cA)(ob:List aJ)(c:C)(Q:Exit→bh→Prop):Option bh→Prop
 |some st=>c1 P ob c Q st
 |none=>ep
theorem YS:xi P ob c Q (some st)=c1 P ob c Q st:=rfl
theorem aau{s:Nat}:c1 P ob (.pub s c) Q st=xi P ob c Q (wS st s):=by simp only[c1];cases wS st s<;>rfl
theorem aaq{pt:Bool}{s:Nat}:c1 P ob (.fg pt s c) Q st=c1 P ob c Q {st with t:=put s (zB pt (get s st.t)) st.t}:=rfl
theorem aar{pt:Bool}{s:Nat}{d:C}:c1 P ob (.seq (.fg pt s c) d) Q st=c1 P ob (.seq c d) Q {st with t:=put s (zB pt (get s st.t)) st.t}:=rfl
theorem aas{e8:Bool}{s:Nat}:c1 P ob (.fz e8 s c) Q st=xi P ob c Q (vP st e8 s):=by simp only[c1];cases vP st e8 s<;>rfl
theorem aat{e8:Bool}{s:Nat}{d:C}:c1 P ob (.seq (.fz e8 s c) d) Q st=xi P ob (.seq c d) Q (vP st e8 s):=by simp only[c1];cases vP st e8 s<;>rfl
theorem aav{s:Nat}:c1 P ob (.pubB s c) Q st=xi P ob c Q (wR st s):=by simp only[c1];cases wR st s<;>rfl
theorem aaO{n:Nat}{dj:List ah}{d:Option Nat}{xs:List ah}:JF P (.func n dj) d xs r st K=cM P n (di (xs++dj)) st d (Ey P r K):=rfl
theorem aaQ{s:Nat}{w:Bool}{i:ed}:h8 P (⟨some (s,w),i⟩::r) st K=pU P (get s st.t) s w i r st K:=by simp only[h8,pU];try rfl
theorem aaY{s:Nat}{i:ed}:pU P (.bool true) s true i r st K=h8 P (⟨none,i⟩::r) {st with t:=put s (.bool true) st.t} K:=by simp[pU]
theorem aaU{s:Nat}{i:ed}:pU P (.bool false) s false i r st K=h8 P (⟨none,i⟩::r) {st with t:=put s (.bool false) st.t} K:=by simp[pU]
theorem aaX{s:Nat}{i:ed}:pU P (.bool true) s false i r st K=h8 P r {st with t:=eS i.dst (.tuple []) (put s (.bool true) st.t)} K:=by simp[pU]
theorem aaV{s:Nat}{i:ed}:pU P (.bool false) s true i r st K=h8 P r {st with t:=eS i.dst (.tuple []) (put s (.bool false) st.t)} K:=by simp[pU]
theorem aaW{s:Nat}{w:Bool}{i:ed}:pU P (.tuple []) s w i r st K=h8 P r {st with t:=eS i.dst (.tuple []) st.t} K:=by simp[pU]
theorem bL{x:Bool}{s:Nat}{w:Bool}{i:ed}(J:x=w→h8 P (⟨none,i⟩::r) {st with t:=put s (.bool w) st.t} K)(U:x= !w→h8 P r {st with t:=eS i.dst (.tuple []) (put s (.bool !w) st.t)} K):pU P (.bool x) s w i r st K:=⟨J,U⟩
theorem aaf:c1 P ob (.seq (.seq a b) c) Q st=c1 P ob (.seq a (.seq b c)) Q st:=by simp only[c1];congr 1;funext e st';cases e<;>rfl
theorem aaA:c1 P ob (.seq .skip c) Q st=c1 P ob c Q st:=rfl
theorem aay:c1 P ob (.seq .ret c) Q st=Q .ret st:=rfl
theorem aao{n:Nat}:c1 P ob (.seq (.exit n) c) Q st=Q (.exit n) st:=rfl
theorem aaB:c1 P ob .skip Q st=Q .normal st:=rfl
theorem aaz:c1 P ob .ret Q st=Q .ret st:=rfl
theorem aap{n:Nat}:c1 P ob (.exit n) Q st=Q (.exit n) st:=rfl
theorem aaw{gs:List c5}:c1 P ob (.seq (.region gs) c) Q st=h8 P gs st (zc P ob c Q):=rfl
theorem aax{gs:List c5}:c1 P ob (.region gs) Q st=h8 P gs st (Q .normal):=rfl
theorem aai{x:dq}:c1 P ob (.seq (.cond x t e) c) Q st=uq P ob (cj st.t x) x (.seq t c) (.seq e c) Q st:=by simp only[c1,uq];try rfl
theorem aaj{x:dq}:c1 P ob (.cond x t e) Q st=uq P ob (cj st.t x) x t e Q st:=by simp only[c1,uq];try rfl
theorem aaD{x:dq}:uq P ob (.bool true) x t e Q st=c1 P ob t Q (sk st x true):=by simp[uq]
theorem aaC{x:dq}:uq P ob (.bool false) x t e Q st=c1 P ob e Q (sk st x false):=by simp[uq]
theorem bG{v:Bool}{x:dq}(J:v=true→c1 P ob t Q (sk st x true))(U:v=false→c1 P ob e Q (sk st x false)):uq P ob (.bool v) x t e Q st:=⟨J,U⟩
def y8(P:cA)(ob:List aJ)(id:Nat)(c:C)(Q:Exit→bh→Prop)(e:Exit)(st:bh):Prop:=
 match e with
 | .normal=>c1 P ob c Q st
 | .exit j=>if j=id then c1 P ob c Q st else Q (.exit j) st
 |e=>Q e st
theorem aag{id:Nat}:c1 P ob (.seq (.block id a) c) Q st=c1 P ob a (y8 P ob id c Q) st:=by
 simp only[c1];congr 1;funext e st';cases e with
 |exit j=>rfl
 |_=>rfl
theorem aah{id:Nat}:c1 P ob (.block id a) Q st=c1 P ob a (y8 P ob id .skip Q) st:=by
 simp only[c1];congr 1;funext e st';cases e with
 |exit j=>simp only[y8];by_cases ag:j=id<;>simp[ag,c1]
 |_=>rfl
theorem YG{id:Nat}:y8 P ob id c Q .normal st=zc P ob c Q st:=rfl
theorem YF{id j:Nat}:y8 P ob id c Q (.exit j) st=if j=id then zc P ob c Q st else Q (.exit j) st:=rfl
theorem YH{id:Nat}:y8 P ob id c Q .ret st=Q .ret st:=rfl
def bN(ob:List aJ)(hc:Nat→bh→Prop)(k:Nat)(Q:Exit→bh→Prop)(e:Exit)(st:bh):Prop:=
 match e with
 | .normal=> ∃k' oR,k'<k∧iM ob st oR∧hc k' oR
 |e=>Q e st
theorem Ev{hc:Nat→bh→Prop}{k:Nat}:bN ob hc k Q .normal st= ∃k' oR,k'<k∧iM ob st oR∧hc k' oR:=rfl
theorem YN{hc:Nat→bh→Prop}{k n:Nat}:bN ob hc k Q (.exit n) st=Q (.exit n) st:=rfl
theorem YO{hc:Nat→bh→Prop}{k:Nat}:bN ob hc k Q .ret st=Q .ret st:=rfl
theorem mX(hc:Nat→bh→Prop)(m:Nat)(w4:bh)(hw:iM ob st w4)(bD:hc m w4)(h:∀k s,hc k s→(∀i,fY (get i s.t))→(∀j cs,look j s.b=some cs→h2 cs=true→gx cs)→c1 P ob a (bN ob hc k Q) s):c1 P ob (.loop a) Q st:=by
 simp only[c1];refine⟨hc,m,w4,hw,bD,fun k s J U ao=>?_⟩;have:=h k s J U ao;have bu:(bN ob hc k Q)=(fun e s'=>match e with| .normal=> ∃k' oR,k'<k∧iM ob s' oR∧hc k' oR|e=>Q e s'):=by funext e s';cases e<;>rfl
 rw[bu]at this;exact this
end
/-Regions cG draw k4 order. -/
def Nf(n0:Nat)(st:bh)(i:eh):Prop:=match eE (o8 n0 i) st.n (o8 n0 i::st.o) st i with|some (c,_)=>c|none=>ep
def Ng(n0:Nat)(st:bh)(i:eh):bh:=match eE (o8 n0 i) st.n (o8 n0 i::st.o) st i with|some (_,s)=>s|none=>st
def It(P:cA)(q:Bool)(nw:List Nat)(n0:Nat)(r:List c5)(K:bh→Prop)(st:bh):Prop:=hV P q nw n0 r st K
def pT(P:cA)(q:Bool)(nw:List Nat)(n0:Nat)(v:ah)(s:Nat)(w:Bool)(i:ed)(r:List c5)(st:bh)(K:bh→Prop):Prop:=
 match v with
 | .bool b=>(b=w→hV P q nw n0 (⟨none,i⟩::r) {st with t:=put s (.bool w) st.t} K)∧(b= !w→hV P q nw n0 r {st with t:=eS i.dst (.tuple []) (put s (.bool !w) st.t)} K)
 | .tuple []=>hV P q nw n0 r {st with t:=eS i.dst (.tuple []) st.t} K
 |_=>ep
def JE(P:cA)(q:Bool)(nw:List Nat)(n0:Nat)(v:ah)(d:Option Nat)(xs:List ah)(r:List c5)(st:bh)(K:bh→Prop):Prop:=
 match v with
 | .func n dj=>fJ P q nw n (di (xs++dj)) st d (It P q nw n0 r K)
 |_=>ep
section
variable {P:cA} {ob:List aJ} {st:bh} {K:bh→Prop} {r:List c5} {Q:Exit→bh→Prop} {c:C} {q:Bool} {nw:List Nat} {n0 N:Nat}
theorem aaH:hV P q nw n0 [] st K=K st:=rfl
theorem aaI{i:eh}:hV P q nw n0 (⟨none,.s i⟩::r) st K=(l2 q nw n0 st i∧Nf n0 st i∧hV P q nw n0 r (Ng n0 st i) K):=by
 simp only[hV,kt,Nf,Ng];cases eE (o8 n0 i) st.n (o8 n0 i::st.o) st i with
 |none=>simp
 |some x=>rfl
theorem aaF{d:Option Nat}{f:dq}{xs:List dq}:hV P q nw n0 (⟨none,.call d f xs⟩::r) st K=JE P q nw n0 (cj st.t f) d (xs.map (cj st.t)) r st K:=by simp only[hV,kt,JE];rfl
theorem aaE{n:Nat}{dj:List ah}{d:Option Nat}{xs:List ah}:JE P q nw n0 (.func n dj) d xs r st K=fJ P q nw n (di (xs++dj)) st d (It P q nw n0 r K):=rfl
theorem aaG{s:Nat}{w:Bool}{i:ed}:hV P q nw n0 (⟨some (s,w),i⟩::r) st K=pT P q nw n0 (get s st.t) s w i r st K:=by simp only[hV,pT];try rfl
theorem aaN{s:Nat}{i:ed}:pT P q nw n0 (.bool true) s true i r st K=hV P q nw n0 (⟨none,i⟩::r) {st with t:=put s (.bool true) st.t} K:=by simp[pT]
theorem aaJ{s:Nat}{i:ed}:pT P q nw n0 (.bool false) s false i r st K=hV P q nw n0 (⟨none,i⟩::r) {st with t:=put s (.bool false) st.t} K:=by simp[pT]
theorem aaM{s:Nat}{i:ed}:pT P q nw n0 (.bool true) s false i r st K=hV P q nw n0 r {st with t:=eS i.dst (.tuple []) (put s (.bool true) st.t)} K:=by simp[pT]
theorem aaK{s:Nat}{i:ed}:pT P q nw n0 (.bool false) s true i r st K=hV P q nw n0 r {st with t:=eS i.dst (.tuple []) (put s (.bool false) st.t)} K:=by simp[pT]
theorem aaL{s:Nat}{w:Bool}{i:ed}:pT P q nw n0 (.tuple []) s w i r st K=hV P q nw n0 r {st with t:=eS i.dst (.tuple []) st.t} K:=by simp[pT]
theorem bK{x:Bool}{s:Nat}{w:Bool}{i:ed}(J:x=w→hV P q nw n0 (⟨none,i⟩::r) {st with t:=put s (.bool w) st.t} K)(U:x= !w→hV P q nw n0 r {st with t:=eS i.dst (.tuple []) (put s (.bool !w) st.t)} K):pT P q nw n0 (.bool x) s w i r st K:=⟨J,U⟩
theorem aak{gs:List c5}:c1 P ob (.seq (.drawn q N gs) c) Q st=hV P q [] st.n gs st (tX (st.n+N) st.o (zc P ob c Q)):=rfl
theorem aal{gs:List c5}:c1 P ob (.drawn q N gs) Q st=hV P q [] st.n gs st (tX (st.n+N) st.o (Q .normal)):=rfl
theorem aam{gs:List c5}:c1 P ob (.seq (.drawnW nw N gs) c) Q st=((∀j∈nw,.obj j∉st.o)∧hV P false nw st.n gs st (tX (st.n+N) (nw.map aJ.obj++st.o) (zc P ob c Q))):=rfl
theorem aan{gs:List c5}:c1 P ob (.drawnW nw N gs) Q st=((∀j∈nw,.obj j∉st.o)∧hV P false nw st.n gs st (tX (st.n+N) (nw.map aJ.obj++st.o) (Q .normal))):=rfl
theorem fJ.val{n:Nat}{args:List ah}{d:Option Nat}{r:ah}(ad:aN (fun _=>ep) args)(aO:bS P n args r)(h:K {st with t:=eS d r st.t}):fJ P q nw n args st d K:=by
 refine .inr ⟨⟨[],[]⟩,⟨[],[]⟩,r,none,fun k cs ad=>by simp[look]at ad,fun k cs ad=>by simp[look]at ad,u5,u5,⟨fun k h=>.inl h,fun k h=>.inl h,fun k h=>h,fun k h=>h,fun k h=>by cases h⟩,jX (fun _ h=>h.elim) _ ad,aO,fun _=>⟨rfl,rfl⟩,?_⟩;have:({after st ⟨[],[]⟩ ⟨[],[]⟩ d r with o:=st.o}:bh)={st with t:=eS d r st.t}:=by simp[after,N7]
 rw[this];exact h
theorem aC{n:Nat}{args:List ah}{d:Option Nat}{r:ah}(aO:bS P n args r)(h:K {st with t:=eS d r st.t})(ad:aN (fun _=>ep) args:=by simp):fJ P q nw n args st d K:=fJ.val ad aO h
end
section
variable {k:IntKind} {n:Int} {b:Bool} {s:List cQ} {sz:Nat} {tag:BO} {xs:List ah} {key:aJ} {off f:Nat} {x:ah}
@[simp] theorem arw:eL (.int k n)=true:=rfl
@[simp] theorem ari:eL (.bool b)=true:=rfl
@[simp] theorem arD:eL (.str s)=true:=rfl
@[simp] theorem arC:eL (.slice sz tag xs)=true:=rfl
@[simp] theorem ard:eL (.agg xs)=true:=rfl
@[simp] theorem arA:eL (.ptr key off)=true:=rfl
@[simp] theorem ars:eL (.eptr x)=true:=rfl
@[simp] theorem arv{t:Nat}:eL (.iface t x)=true:=rfl
@[simp] theorem anT{t:Nat}:cells (.iface t x)=[.iface t x]:=rfl
@[simp] theorem ark{a:Option Addr}{n c:Nat}:eL (.cst (.slice a n c))=true:=rfl
@[simp] theorem arl{s}:eL (.cst (.string s))=true:=rfl
@[simp] theorem arz:eL .nilp=true:=rfl
@[simp] theorem art:eL (.func f xs)=true:=rfl
@[simp] theorem aru:eL (.gmap key)=true:=rfl
@[simp] theorem arB{n:Nat}:eL (.row sz key n)=true:=rfl
@[simp] theorem an0{n:Nat}:cells (.row sz key n)=[.row sz key n]:=rfl
@[simp] theorem anU:cells (.int k n)=[.int k n]:=rfl
@[simp] theorem anK:cells (.bool b)=[.bool b]:=rfl
@[simp] theorem an2:cells (.str s)=[.str s]:=rfl
@[simp] theorem an1:cells (.slice sz tag xs)=[.slice sz tag xs]:=rfl
@[simp] theorem anH:cells (.agg xs)=xs:=rfl
@[simp] theorem anZ:cells (.ptr key off)=[.ptr key off]:=rfl
@[simp] theorem anQ:cells (.eptr x)=[.eptr x]:=rfl
@[simp] theorem anY:cells .nilp=[.nilp]:=rfl
@[simp] theorem anR:cells (.func f xs)=[.func f xs]:=rfl
@[simp] theorem anS:cells (.gmap key)=[.gmap key]:=rfl
end
section
variable {b:List (aJ×List ah)} {e:List (aJ×fL)} {agg:Bool} {sz off:Nat} {k:aJ} {p:ah} {cs xs a7:List ah} {fp:IntKind} {n i:Int} {m j:Nat} {tag:BO} {s:List cQ} {OU:Bool} {lo hi:Option ah}
@[simp] theorem apP{dC:Nat}{f:Nat}:mI b e agg sz (.rptr dC k m j f)=yO agg sz dC m j f (look k e):=rfl
@[simp] theorem apO:mI b e agg sz (.ptr k off)=(match look k b with
  |some cs=>if agg then some (h2 cs=true∧off+sz≤cs.length,.agg ((cs.drop off).take sz))else(cs[off]?).map fun p=>(h2 cs=true,p)
  |none=>none):=rfl
@[simp] theorem apN:mI b e agg sz (.eptr p)=if agg then some (isAgg sz p,p)else some (eL p=true∧cells p=[p],p):=rfl
@[simp] theorem aot:Ci agg sz (.eptr p)=if agg then some (isAgg sz p,p)else some (eL p=true∧cells p=[p],p):=rfl
@[simp] theorem aoj{o:Nat}:pV off agg sz (.ptr k o)=some (True,.ptr k (o+off)):=rfl
@[simp] theorem aok{dC f:Nat}:pV off agg sz (.rptr dC k m j f)=some (True,.rptr dC k m j (f+off)):=rfl
@[simp] theorem aoc:pV off agg sz (.eptr (.agg cs))=if agg then some (off+sz≤cs.length,.eptr (.agg ((cs.drop off).take sz)))else(cs[off]?).map fun p=>(eL p=true∧cells p=[p],.eptr p):=rfl
@[simp] theorem aom:rF off agg sz (.agg cs)=if agg then some (off+sz≤cs.length,.agg ((cs.drop off).take sz))else(cs[off]?).map fun p=>(True,p):=rfl
@[simp] theorem aoZ{dC:Nat}:Ao sz (.slice dC tag xs) (.int fp i)=if dC=sz then some (0≤i∧i<xs.length,.eptr (xs.getD i.toNat .junk))else none:=rfl
@[simp] theorem aoY{dC:Nat}:Ao sz (.row dC k m) (.int fp i)=if dC=sz then some (0≤i∧i<m,.rptr dC k m i.toNat 0)else none:=rfl
@[simp] theorem apM{dC:Nat}:AE (.slice dC tag xs)=some (True,.int .i64 xs.length):=rfl
@[simp] theorem apL{dC:Nat}:AE (.row dC k m)=some (True,.int .i64 m):=rfl
@[simp] theorem apK{a:Option Addr}{n c:Nat}:AE (.cst (.slice a n c))=some (True,.int .i64 n):=rfl
@[simp] theorem arb{s}:D5 (.cst (.string s))=some (True,.int .i64 s.size):=rfl
@[simp] theorem arc:D5 (.str s)=some (True,.int .i64 s.length):=rfl
@[simp] theorem aob:zw j (.tuple a7)=(a7[j]?).map fun p=>(True,p):=rfl
@[simp] theorem aqf:AO (.ptr k off)=some (True,.ptr k off):=rfl
@[simp] theorem aqd:AO (.eptr p)=some (True,.eptr p):=rfl
@[simp] theorem aqe:AO (.func j cs)=some (True,.func j cs):=rfl
@[simp] theorem aqg:GV (.bool OU)=some (True,.bool (!OU)):=rfl
@[simp] theorem ara:HR (.str s) (.int fp i)=some (0≤i∧i<s.length,.int .u8 (s.getD i.toNat 0).toNat):=rfl
@[simp] theorem arE:HX (.str s) lo hi=(match q6 0 lo,q6 s.length hi with
  |some l,some h=>some (0≤l∧l≤h∧h≤s.length,.str ((s.take h.toNat).drop l.toNat))
  |_,_=>none):=rfl
@[simp] theorem apQ{dC:Nat}:GG sz (.slice dC tag xs) lo hi=(if dC=sz then match q6 0 lo,q6 xs.length hi with
  |some l,some h=>some (0≤l∧l≤h∧h≤xs.length,.slice sz .no ((xs.take h.toNat).drop l.toNat))
  |_,_=>none else none):=rfl
theorem U2{f:aJ→Option (List ah)}{b7:jD}{z q:ah}{ok:Bool}:nT f b7 z ok (.gmap k) q=(match f k with
  |some (.hdm _ _::kvs)=>if uR b7 q=false then none else match wH b7 q kvs with
   |some (some v)=>some (True,if ok then .tuple [v,.bool true]else v)
   |some none=>some (True,if ok then .tuple [z,.bool false]else z)
   |none=>none
  |_=>none):=rfl
theorem ahy{f:aJ→Option (List ah)}:u3 f (.gmap k)=(match f k with
  |some (.hdm _ borns::_)=>some (True,.int .i64 borns.length)
  |_=>none):=rfl
theorem UZ{f:aJ→Option (List ah)}:pz f (.ptr k 0)=(match f k with
  |some [.hdi _ seen last,.gmap mk]=>match f mk with
   |some (.hdm clock borns::kvs)=>match seen.getLast? with
    |some n=>(mJ n borns kvs).map fun p=>(clock=last,p)
    |none=>none
   |_=>none
  |_=>none):=rfl
@[simp] theorem aq9{dC f n' el jn:Nat}:yO agg sz dC m j f (some ⟨n',el,jn,some xs⟩)=(if n'=m∧jn=dC then
   (match xs[j]? with
    |some p=>if agg then some (eL p=true∧f+sz≤(cells p).length,.agg (((cells p).drop f).take sz))else((cells p)[f]?).map fun q=>(eL p=true,q)
    |none=>none)else none):=rfl
end
attribute [simp] aaf aaw aag aai aaA aay aao aaB aaz aap aax aah aaj zc YG YF YH YN YO aaS aaT aaP aaO aaQ
 aaY aaU aaX aaV aaW aaD aaC Nh Ni mg hr jP cj get put jM p8 nt nu cu q6 b6 cm HY nZ uk G6 GR Fb GP
 look eS eh.dst ed.dst sk Ey sI di dU aH aN
 aak aal aam aan aaH aaI aaF aaE aaG aaN aaJ aaM aaK aaL Nf Ng eE o8 l2 xH fX.loadO tX It yd h2 sJ aaR aau aav aaq aar aas aat vP J4 sP zB YS wS DG wR re pG hN GK
theorem aB{P:cA}{n:Nat}{args:List ah}{st:bh}{d:Option Nat}{K:bh→Prop}{r:ah}(aO:bS P n args r)(h:K {st with t:=eS d r st.t})(ad:aN (fun _=>ep) args:=by simp):cM P n args st d K:=cM.val ad aO h
theorem aj{a b:Prop}(ae:b)(bk:a:=by first|omega|(unfold oK;omega)|(unfold lim;omega)):a∧b:=⟨bk,ae⟩
theorem cg{p:Prop}(h:ep:=by first|contradiction|omega):p:=h.elim
theorem cB{p:Prop}(h:p:=by(try simp[*]);(repeat' first|with_reducible refine aj ?_|with_reducible refine aB (by assumption) ?_|with_reducible refine aC (by assumption) ?_|simp[*]);(all_goals first|done|(simp[bp,aT,aW,aQ, *];done))):p:=h
end Go.Pv
namespace Go.Pv
open Go Go.RowKit
structure dL (s:cI):Prop where
 obj:iE s
 kb:∀k cs,look k s.b=some cs→aN (inObs s) cs
 ke:∀k o,look k s.e=some o→ej (inObs s) o
structure Same (s s':cI):Prop where
 b:∀k,(look k s.b).isSome=(look k s'.b).isSome
 e:∀k,(look k s.e).isSome=(look k s'.e).isSome
theorem Same.refl(s:cI):Same s s:=⟨fun _=>rfl,fun _=>rfl⟩
theorem Same.inObs{s s':cI}(h:Same s s')(k:aJ):inObs s k↔inObs s' k:=by unfold Pv.inObs;rw[h.b,h.e]
theorem u0{α:Type}{k:aJ}{x:α}:∀{l:List (aJ×α)},(k,x)∈l→(look k l).isSome
 |(i,y)::r,h=>by
  simp only[look];split
  ·rfl
  ·rename_i cD;rcases fA.1 h with h|h
   ·cases h;exact absurd rfl cD
   ·exact u0 h
theorem TU{s:cI}{k:aJ}(h:k∈cZ s):inObs s k:=by
 unfold cZ at h;rcases iH.1 h with h|h
 ·obtain⟨⟨k',x⟩,J,rfl⟩:=hJ.1 h;exact .inl (u0 J)
 ·obtain⟨⟨k',x⟩,J,rfl⟩:=hJ.1 h;exact .inr (u0 J)
theorem j0{s:cI}(h:iE s)(m:Nat):aJ.loc m∉cZ s:=fun hm=>by
 rcases TU hm with J|J
 ·rw[h.1 m]at J;cases J
 ·rw[h.2 m]at J;cases J
theorem iG{α β:Type}(s:List (aJ×β)):∀(a b:List (aJ×α)),b0 s (a++b)=b0 s a++b0 s b
 |[],b=>rfl
 |(k,x)::r,b=>by
  simp only[bR,b0];cases look k s with
  |none=>simp[iG s r b]
  |some _=>exact iG s r b
theorem N8{α β:Type}(s:List (aJ×β)):∀(l:List (aJ×α)),(∀k x,(k,x)∈l→(look k s).isSome)→b0 s l=[]
 |[],_=>rfl
 |(k,x)::r,h=>by
  have J:=h k x (by simp);simp only[b0];cases aq:look k s with
  |none=>rw[aq]at J;cases J
  |some _=>exact N8 s r fun k x ab=>h k x (by simp[ab])
theorem gZ{α:Type}(s:List (aJ×α)):b0 s s=[]:=N8 s s fun k x h=>u0 h
theorem j4{α:Type}{k:aJ}{x:α}:∀{l:List (aJ×α)},look k l=none→cu k x l=l++[(k,x)]
 |[],_=>rfl
 |(i,y)::r,h=>by
  simp only[look]at h;split at h
  ·cases h
  ·rename_i cD;simp[cu,cD,j4 h]
theorem cH{α:Type}(k:aJ):∀(a b:List (aJ×α)),look k (a++b)=match look k a with|some x=>some x|none=>look k b
 |[],b=>rfl
 |(i,y)::r,b=>by
  simp only[bR,look];split
  ·rfl
  ·exact cH k r b
theorem cM.ob{P:cA}{n:Nat}{args:List ah}{st:bh}{d:Option Nat}{K:bh→Prop}{s:cI}{Q:ah→cI→Prop}(aO:bC P n args s Q)(af:dL s)(ae:∀k cs,look k s.b=some cs→look k st.b=some cs)(he:∀k o,look k s.e=some o→look k st.e=some o)
  (ad:aN (inObs s) args) (h:∀r s',Q r s'→Same s s'∧K ⟨eS d r st.t,b0 s.b st.b++s'.b,b0 s.e st.e++s'.e,st.n,st.o++cZ s'⟩):cM P n args st d K:=by
 refine .inl ⟨s,Q,fun k cs ar=>⟨ae k cs ar,.inl (by simp[ar]),af.kb k cs ar⟩,fun k o av=>⟨he k o av,.inr (by simp[av]),af.ke k o av⟩,af.obj,ad,aO,fun r s' bu=>?_⟩;obtain⟨J,U⟩:=h r s' bu;exact⟨⟨fun m hm=>.inl (by rw[J.b];exact hm),fun m hm=>.inl (by rw[J.e];exact hm)⟩,U⟩
theorem cJ.ob{eG:List bA}{s s':cI}{Q:ah→cI→Prop}{e:Exit}{st:bh}{c:Prop}{cq:List ah}(rP:e= .ret∨e= .normal)(rV:aT st eG=some (c,cq))(ar:c)(af:dL s')(fk:Same s s')(ae:∀k cs,look k s'.b=some cs→look k st.b=some cs)(dk:∀k o,look k s'.e=some o→look k st.e=some o)
  (ad:aH (inObs s') (dU (aQ cq))) (bu:Q (dU (aQ cq)) s'):cJ eG s Q e st:=by
 refine⟨rP,?_⟩;rw[rV];have S8:∀{α:Type} (l:List (aJ×α)),(∀k x,(k,x)∈l→inObs s' k)→kY s' l:=by
  intro α l;induction l with
  |nil=>intro _;trivial
  |cons x r bP=>obtain⟨k,x⟩:=x;intro h;exact⟨h k x (by simp),bP fun k x ab=>h k x (by simp[ab])⟩
 exact⟨ar,s',S8 _ fun k x ab=>.inl (by rw[←fk.b];exact u0 ab),S8 _ fun k x ab=>.inr (by rw[←fk.e];exact u0 ab),fun k cs df=>⟨ae k cs df,.inl (by simp[df]),af.kb k cs df⟩,fun k o av=>⟨dk k o av,.inr (by simp[av]),af.ke k o av⟩,af.obj,ad,bu⟩
theorem bC.mono{P:cA}{f:FuncId}{args:List ah}{s:cI}{Q qz:ah→cI→Prop}(h:bC P f args s Q)(bu:∀r s',Q r s'→qz r s'):bC P f args s qz:=by
 intro w ν a7 J U ao;have hm:∀(e:Ending) (w':World),(∃v r s' bg,e= .returned v∧Q r s'∧a6 w' bg r v∧Good (fun bl=>fl ν s bl∨w.heap.size≤bl) w' bg s'.b s'.e∧ov bg s'∧iE s'∧pN ⟨w,ν,fl ν s,0,cZ s⟩ w' bg)→(∃v r s' bg,e= .returned v∧qz r s'∧a6 w' bg r v∧Good (fun bl=>fl ν s bl∨w.heap.size≤bl) w' bg s'.b s'.e∧ov bg s'∧iE s'∧pN ⟨w,ν,fl ν s,0,cZ s⟩ w' bg):=by rintro e w' ⟨v,r,s',bg,bt,a2,a3⟩;exact⟨v,r,s',bg,bt,bu _ _ a2,a3⟩
 rcases h w ν a7 J U ao with⟨qP,ar⟩|⟨v,w',ar,aK⟩
 ·exact .inl ⟨qP,ar.mono hm⟩
 ·exact .inr ⟨v,w',ar,hm _ _ aK⟩
theorem Dr{s:cI}{k:aJ}(h:inObs s k):¬fresh 0 (cZ s) k:=fun aO=>aO.2 (tE h)
theorem iM.ob{s:cI}(af:dL s){st:bh}{dF:List (Nat×ah)}(aL:∀x∈dF,get x.1 st.t=x.2∧aH (inObs s) x.2)(ae:∀k cs,look k s.b=some cs→look k st.b=some cs)(he:∀k o,look k s.e=some o→look k st.e=some o):
  iM (cZ s) st ⟨dF,s.b,s.e,0,cZ s⟩:=
 ⟨fun x ab=>⟨(aL x ab).1,wA (fun k ad=>Dr ad) _ (aL x ab).2⟩,fun k cs ar=>⟨ae k cs ar,Dr (.inl (by simp[ar])),jX (fun k ad=>Dr ad) _ (af.kb k cs ar)⟩,
  fun k o av=>⟨he k o av,Dr (.inr (by simp[av])),fun xs ab=>jX (fun k ad=>Dr ad) _ (af.ke k o av xs ab)⟩,fun m hm=>hm⟩
def cP(st:bh)(eG:List bA)(R:ah→Prop):Prop:=match aT st eG with
 |some (c,cq)=>c∧R (dU (aQ cq))
 |none=>ep
theorem cJ.at{eG:List bA}{s:cI}{Q:ah→cI→Prop}{e:Exit}{st:bh}(s':cI)(rP:e= .ret∨e= .normal)(af:dL s')(fk:Same s s')(ae:∀k cs,look k s'.b=some cs→look k st.b=some cs)(dk:∀k o,look k s'.e=some o→look k st.e=some o)
  (h:cP st eG fun r=>aH (inObs s') r∧Q r s'):cJ eG s Q e st:=by
 unfold cP at h;split at h
 ·rename_i c cq aK;exact cJ.ob rP aK h.1 af fk ae dk h.2.1 h.2.2
 ·exact h.elim
theorem fJ.ob{P:cA}{nw:List Nat}{n:Nat}{args:List ah}{st:bh}{d:Option Nat}{K:bh→Prop}{s s':cI}{r:ah}(aO:bC P n args s fun eg dF=>eg=r∧dF=s')(af:dL s)(fM:dL s')(fk:Same s s')(ae:∀k cs,look k s.b=some cs→look k st.b=some cs)(he:∀k o,look k s.e=some o→look k st.e=some o)
  (ad:aN (inObs s) args) (h:K ⟨eS d r st.t,b0 s.b st.b++s'.b,b0 s.e st.e++s'.e,st.n,st.o⟩):fJ P false nw n args st d K:=
 .inr ⟨s,s',r,none,fun k cs ar=>⟨ae k cs ar,.inl (by simp[ar]),af.kb k cs ar⟩,fun k o av=>⟨he k o av,.inr (by simp[av]),af.ke k o av⟩,af.obj,fM.obj,⟨fun k ad=>.inl (by rw[fk.b];exact ad),fun k ad=>.inl (by rw[fk.e];exact ad),fun k ad=>by rw[←fk.b];exact ad,fun k ad=>by rw[←fk.e];exact ad,fun k ad=>by cases ad⟩,ad,aO,(fun e=>by cases e),h⟩
theorem dL.of{s:cI}(av:iE s)(ae:∀x∈s.b,aN (inObs s) x.2)(he:∀x∈s.e,∀xs,x.2.xs=some xs→aN (inObs s) xs):dL s:=⟨av,fun k cs ad=>ae (k,cs) (tv ad),fun k o ad xs ab=>he (k,o) (tv ad) xs ab⟩
@[simp] theorem aqi(b:List (aJ×List ah))(e:List (aJ×fL)):cZ ⟨b,e⟩=b.map (·.1)++e.map (·.1):=rfl
theorem By{α:Type}{k:aJ}{p:α}:∀{a r:List (aJ×α)},look k a=none→cu k p (a++r)=a++cu k p r
 |[],_,_=>rfl
 |(i,y)::a,r,h=>by
  simp only[look]at h;split at h
  ·cases h
  ·rename_i cD;simp[cu,cD,By h]
theorem agU{α:Type}{s b:List (aJ×α)}(h:∀p∈s,look p.1 b=some p.2):∀k x,look k s=some x→look k b=some x:=fun k x ab=>h (k,x) (tv ab)
theorem eM{S:aJ→Prop}{bV b:List (aJ×List ah)}(h:∀p∈bV,look p.1 b=some p.2∧S p.1∧aN S p.2):gB S bV b:=fun k x ab=>h (k,x) (tv ab)
theorem eN{S:aJ→Prop}{bV b:List (aJ×fL)}(h:∀p∈bV,look p.1 b=some p.2∧S p.1∧ej S p.2):nA S bV b:=fun k x ab=>h (k,x) (tv ab)
theorem aG{α:Type}{s b:List (aJ×α)}(h:∀k x,look k s=some x→look k b=some x:=by first|(refine agU ?_;simp;done)|(intro k x ab;first|exact ab|(simp[ab,gZ];done)|(simp[cH,gZ,ab];done)|(cases k<;>simp_all[cH];done))):∀k x,look k s=some x→look k b=some x:=h
theorem b3{ob:List aJ}{st st':bh}(J:∀x∈st'.t,get x.1 st.t=x.2∧aH (fun k=> ¬fresh st'.n st'.o k) x.2:=by simp[fresh,aN,aH,cn,inObs,Pv.look])(U:∀p∈st'.b,look p.1 st.b=some p.2∧(¬fresh st'.n st'.o p.1)∧aN (fun k=> ¬fresh st'.n st'.o k) p.2:=by simp[fresh,aN,aH,cn,inObs,Pv.look])(ao:∀p∈st'.e,look p.1 st.e=some p.2∧(¬fresh st'.n st'.o p.1)∧ej (fun k=> ¬fresh st'.n st'.o k) p.2:=by simp[fresh,aN,aH,ej,inObs,Pv.look])(a1:∀m∈ob,m∈st'.o:=by simp):iM ob st st':=⟨J,eM U,eN ao,a1⟩
theorem bN.next{ob:List aJ}{hc:Nat→bh→Prop}{k:Nat}{Q:Exit→bh→Prop}{st:bh}(k':Nat){s':bh}(ad:k'<k)(hi:hc k' s')(hw:iM ob st s'):bN ob hc k Q .normal st:=⟨k',s',ad,hw,hi⟩
def ku:List (Int×ah)→List ah
 |[]=>[]
 |(k,v)::r=>.int .i64 k::v::ku r
def jL(l:List (Int×ah)):List ah:= .hdm l.length (List.range l.length)::ku l
def xo(k:Int):List (Int×ah)→Option ah
 |[]=>none
 |(i,v)::r=>if k=i then some v else xo k r
def o3(k:Int)(v:ah):List (Int×ah)→Option (List (Int×ah))
 |[]=>none
 |(i,w)::r=>if k=i then some ((k,v)::r)else match o3 k v r with|some eg=>some ((i,w)::eg)|none=>none
def EK(k:Int)(v:ah)(l:List (Int×ah)):List (Int×ah):=match o3 k v l with|some l'=>l'|none=>l++[(k,v)]
@[simp] theorem ap0:[ah.hdm 0 []]=jL []:=rfl
theorem RW:∀a b,ku (a++b)=ku a++ku b
 |[],_=>rfl
 |(k,v)::r,b=>by simp[ku,RW r b]
theorem U0(k:Int):∀l,wH .i (.int .i64 k) (ku l)=some (xo k l)
 |[]=>rfl
 |(i,v)::r=>by
  simp only[ku,wH,tq,xo];by_cases h:k=i
  ·simp[h]
  ·have:(k==i)=false:=by simp[h]
   simp[h,U0 k r,this]
theorem OM{k:Int}{v:ah}:∀{l l'},o3 k v l=some l'→l'.length=l.length
 |[],_,h=>by simp[o3]at h
 |(i,w)::r,l',h=>by
  simp only[o3]at h;split at h
  ·cases h;rfl
  ·split at h
   ·rename_i eg aK;cases h;simp[OM aK]
   ·cases h
theorem Ve(k:Int)(v:ah):∀l,u4 .i (.int .i64 k) v (ku l)=some ((o3 k v l).map ku)
 |[]=>rfl
 |(i,w)::r=>by
  simp only[ku,u4,tq,o3];by_cases h:k=i
  ·subst h;simp[ku]
  ·simp only[and_self,if_true,h,if_false,dK,Ve k v r];have:(k==i)=false:=by simp[h]
   rw[this];cases o3 k v r<;>simp[ku]
@[simp] theorem Vd(k:Int)(v:ah)(l:List (Int×ah)):oO .i (.int .i64 k) v (jL l)=some (jL (EK k v l)):=by
 simp only[jL,oO,Um,Bool.true_eq_false,reduceCtorEq,if_false,Ve,EK];cases h:o3 k v l with
 |some l'=>simp[OM h]
 |none=>simp[RW,ku,List.range_succ]
@[simp] theorem ahk(f:aJ→Option (List ah))(m:aJ)(l:List (Int×ah))(z:ah)(ok:Bool)(k:Int)(hm:f m=some (jL l)):nT f .i z ok (.gmap m) (.int .i64 k)=(match xo k l with
  |some v=>some (True,if ok then .tuple [v,.bool true]else v)
  |none=>some (True,if ok then .tuple [z,.bool false]else z)):=by
 simp only[U2,hm,jL,Um,Bool.true_eq_false,reduceCtorEq,if_false,U0];cases xo k l<;>rfl
@[simp] theorem ahz(f:aJ→Option (List ah))(m:aJ)(l:List (Int×ah))(hm:f m=some (jL l)):u3 f (.gmap m)=some (True,.int .i64 l.length):=by simp[ahy,hm,jL]
def cn(n:Nat)(seen:List Nat)(m:aJ):List ah:=[.hdi n seen n,.gmap m]
@[simp] theorem aq8(m:aJ)(l:List (Int×ah)):wW m (jL l)=some (cn l.length [] m):=rfl
@[simp] theorem aqr(l:List (Int×ah)):h2 (jL l)=false:=rfl
theorem LM(b:Nat):∀(n:Nat) (l:List (Int×ah)),mJ b (List.range' n l.length) (ku l)=(if n≤b then(l[b-n]?).map fun x=>.tuple [.int .i64 x.1,x.2]else none)
 |n,[]=>by simp[mJ,ku]
 |n,(k,v)::r=>by
  simp only[oa,List.range'_succ,ku,mJ];by_cases h:n=b
  ·subst h;simp
  ·rw[if_neg h,LM b (n+1) r];by_cases U:n≤b
   ·rw[if_pos U,if_pos (by omega)];have:b-n=(b-(n+1))+1:=by omega
    rw[this];simp
   ·rw[if_neg U,if_neg (by omega)]
@[simp] theorem UY(f:aJ→Option (List ah))(fp mk:aJ)(n:Nat)(seen:List Nat)(b:Nat)(l:List (Int×ah))(hi:f fp=some (cn n (seen++[b]) mk))(hm:f mk=some (jL l))(au:n=l.length):pz f (.ptr fp 0)=(l[b]?).map fun x=>(True,.tuple [.int .i64 x.1,x.2]):=by subst au;simp only[UZ,hi,hm,cn,jL,List.getLast?_append,List.getLast?_singleton,Option.some_or,List.range_eq_range',LM,Nat.zero_le,if_true,Nat.sub_zero,Option.map_map];cases l[b]?<;>simp
theorem Ru{st:bh}{d:Nat}{K:bh→Prop}{fp mk:aJ}{n:Nat}{seen:List Nat}{l:List (Int×ah)}(hi:look fp st.b=some (cn n seen mk))(hm:look mk st.b=some (jL l))(au:n=l.length)
  (J:(∀b,b<n→b∈seen)→K {st with t:=put d (.tuple [.bool false]) st.t}) (U:∀b k v,l[b]? =some (k,v)→b∉seen→K {st with t:=put d (.tuple [.bool true,.int .i64 k,v]) st.t,b:=cu fp (cn n (seen++[b]) mk) st.b}):
  sT st d (.ptr fp 0) K:=by
 subst au;simp only[sT,hi,cn,hm,jL,L1,and_self,true_and];refine⟨fun h=>J fun b ae=>h b (by simpa using ae),fun b k v x4 ae=>?_⟩;rw[List.range_eq_range',LM]at x4;simp only[Nat.zero_le,if_true,Nat.sub_zero,gr,ah.tuple.injEq,y7,and_true]at x4;obtain⟨⟨k',v'⟩,ai,ax,bn⟩:=x4;simp only at ax bn;subst ax bn;exact U b k' v' ai ae
theorem ajM{n:Nat}{seen:List Nat}(aE:seen.Nodup)(bm:∀b∈seen,b<n)(lJ:∀b,b<n→b∈seen):seen.Perm (List.range n):=(List.perm_ext_iff_of_nodup aE List.nodup_range).2 fun b=>⟨fun h=>by simpa using bm b h,fun h=>lJ b (by simpa using h)⟩
theorem HN{n:Nat}{seen:List Nat}(aE:seen.Nodup)(bm:∀b∈seen,b<n):seen.length≤n:=by have:=Iq aE (l₂:=List.range n) (fun b ae=>by simpa using bm b ae);simpa using this
theorem Nn{n b:Nat}{seen:List Nat}(aE:seen.Nodup)(bm:∀b∈seen,b<n)(ae:b<n)(au:b∉seen):seen.length<n:=by have J:(b::seen).Nodup:=List.nodup_cons.2 ⟨au,aE⟩;have:=HN J (n:=n) (by simp;exact⟨ae,bm⟩);simp at this;omega
theorem WN{α:Type}:∀(l pre:List α),(List.range' pre.length l.length).filterMap (fun b=>(pre++l)[b]?)=l
 |[],_=>rfl
 |x::r,pre=>by have bP:=WN r (pre++[x]);simp only[pJ,List.length_singleton,List.append_assoc,List.singleton_append]at bP;simp[List.range'_succ,bP]
theorem Nl{α:Type}{l:List α}{seen:List Nat}(aE:seen.Nodup)(bm:∀b∈seen,b<l.length)(lJ:∀b,b<l.length→b∈seen):(seen.filterMap fun b=>l[b]?).Perm l:=by have J:=(ajM aE bm lJ).filterMap fun b=>l[b]?;have U:=WN l [];simp only[List.length_nil,bY,←List.range_eq_range']at U;rwa[U]at J
theorem L5{b:Nat}{seen:List Nat}(aE:seen.Nodup)(au:b∉seen):(seen++[b]).Nodup:=by rw[List.nodup_append];exact⟨aE,by simp,by simp;intro a bk e;subst e;exact au bk⟩
theorem cX.start{w:World}{ν:a8}{s:cI}{args:List ah}{a7:Array Value}(pk:iE s)(aR:Good (fl ν s) w ν s.b s.e)(ab:ov ν s)(aK:cK w ν args a7.toList):
  cX ⟨w,ν,fl ν s,a7.size,cZ s⟩ ⟨jP 0 args,s.b,s.e,0,cZ s⟩ {tmps:=a7,defers:=[]} w ν:=by
 have oJ:=yL aK;have kC:a7.size=args.length:=by simpa using oJ
 have oD:∀k,fresh 0 (cZ s) k→ν.bx k=none∧ν.ow k=none∧∀j b,¬ν.tr k j b:=by
  intro k ad;cases k with
  |loc m=>exact⟨(ab _).1 (pk.1 m),(ab _).2.1 (pk.2 m),(ab _).2.2⟩
  |obj m=>
   simp only[fresh,true_and]at ad;refine⟨?_,?_,(ab _).2.2⟩
   ·refine(ab _).1 ?_;cases h:look (.obj m) s.b with
    |none=>rfl
    |some x=>exact absurd (tE (.inl (by simp[h]))) ad
   ·refine(ab _).2.1 ?_;cases h:look (.obj m) s.e with
    |none=>rfl
    |some x=>exact absurd (tE (.inr (by simp[h]))) ad
 have jf:∀m,(ν.bx (.obj m)≠none∨ν.ow (.obj m)≠none)→ .obj m∈cZ s:=by
  intro m hm;refine Classical.byContradiction fun ar=>?_;obtain⟨J,U,_⟩:=oD (.obj m) ⟨trivial,ar⟩;rcases hm with hm|hm
  ·exact hm J
  ·exact hm U
 refine⟨⟨aR.alt,fun k cs ad=>?_,aR.inj,fun g o eD=>?_,aR.oinj,aR.obx,aR.one,aR.otr⟩,⟨rfl,rfl,rfl,ff _,fun _ _ _=>rfl,fun b o h=>⟨h,rfl⟩,fun b o h=>.inl h,fun n b h=>h,fun n b h=>jf n (.inl (by rw[h];simp)),fun m n u h=>⟨n,u,h,.inl ⟨rfl,rfl⟩⟩,fun m n u h=>jf m (.inr (by rw[h];simp)),fun k j _ _ b h=>absurd h ((ab k).2.2 j b),fun k j b h=>absurd h ((ab k).2.2 j b),fun k j b h=>absurd h ((ab k).2.2 j b),fun _ _ _=>rfl⟩,rfl,rfl,fun i=>?_,oD⟩
 ·obtain⟨bl,us,el,g1,g2,g3⟩:=aR.box k cs ad;exact⟨bl,us,el,g1,.inl g2,g3⟩
 ·obtain⟨v,us,g1,g2,g3,g4⟩:=aR.own g o eD;exact⟨v,us,g1,g2,fun bl fD=>⟨.inl (g3 bl fD).1,(g3 bl fD).2⟩,g4⟩
 ·rw[Fy];by_cases hi:i<args.length
  ·rw[if_pos (by omega)];have qS:args[i]? =some args[i]:=cb hi;obtain⟨v,ai,ax⟩:=DT i aK qS;have B4:a7[i]? =some v:=by simpa using ai
   show a6 w ν _ (a7.getD i undef);rw[Array.getD_eq_getD_getElem?,B4];simpa[List.getD,qS]using ax
  ·rw[if_neg (by omega)];simp[a6]
theorem bC.sem{P:cA}{f:FuncId}{args:List ah}{s:cI}{Q:ah→cI→Prop}(pk:iE s)
  (h:∀(w:World) (ν:a8) (a7:Array Value),a7.size=args.length→cX ⟨w,ν,fl ν s,a7.size,cZ s⟩ ⟨jP 0 args,s.b,s.e,0,cZ s⟩ {tmps:=a7,defers:=[]} w ν→
   xf P f a7 w fun e w'=> ∃v st' be bg r s',e= .returned v∧cX ⟨w,ν,fl ν s,a7.size,cZ s⟩ st' be w' bg∧a6 w' bg r v∧kY s' s.b∧kY s' s.e∧gB (inObs s') s'.b st'.b∧nA (inObs s') s'.e st'.e∧iE s'∧aH (inObs s') r∧Q r s'):bC P f args s Q:=by
 intro w ν a7 aR ab aK;have kC:a7.size=args.length:=by simpa using yL aK
 have oF:=cX.start pk aR ab aK;have hm:∀(e:Ending) (w':World),(∃v st' be bg r s',e= .returned v∧cX ⟨w,ν,fl ν s,a7.size,cZ s⟩ st' be w' bg∧a6 w' bg r v∧kY s' s.b∧kY s' s.e∧gB (inObs s') s'.b st'.b∧nA (inObs s') s'.e st'.e∧iE s'∧aH (inObs s') r∧Q r s')→
   ∃v r s' bg,e= .returned v∧Q r s'∧a6 w' bg r v∧Good (fun bl=>fl ν s bl∨w.heap.size≤bl) w' bg s'.b s'.e∧ov bg s'∧iE s'∧pN ⟨w,ν,fl ν s,0,cZ s⟩ w' bg:=by
  rintro e w' ⟨v,st',be,bg,r,s',rfl,c7,oQ,kb,ke,aV,bf,bI,cN,c6⟩;refine⟨v,r,s',bg.cut (inObs s'),rfl,c6,kn (od.cut _ w' bg) _ _ cN oQ,c7.good.cut aV bf (fun bl h _=>h),?_,bI,?_⟩
  ·intro k;refine⟨?_,?_,?_⟩;rotate_left 2
   ·rintro j b ⟨af,ae⟩;obtain⟨t1,t2⟩:=c7.fr.trn k j b ae;rcases af with af|af<;>obtain⟨x,iq⟩:=fB.1 af
    ·obtain⟨bl,b8,el,ai,_⟩:=c7.good.box k x (aV k x iq).1;rw[t1]at ai;cases ai
    ·obtain⟨v',b8,ai,_⟩:=c7.good.own k x (bf k x iq).1;rw[t2]at ai;cases ai
   ·intro ad;by_cases af:inObs s' k
    ·rw[a8.cut_bx af];rcases af with af|af
     ·rw[ad]at af;cases af
     ·obtain⟨x,iq⟩:=fB.1 af;obtain⟨v',b8,ai,_⟩:=c7.good.own k x (bf k x iq).1;rcases c7.good.one k with J|J
      ·exact J
      ·rw[J]at ai;cases ai
    ·exact(a8.cut_no af).1
   ·intro ad;by_cases af:inObs s' k
    ·rw[a8.cut_ow af];rcases af with af|af
     ·obtain⟨x,iq⟩:=fB.1 af;obtain⟨bl,b8,el,ai,_⟩:=c7.good.box k x (aV k x iq).1;rcases c7.good.one k with J|J
      ·rw[J]at ai;cases ai
      ·exact J
     ·rw[ad]at af;cases af
    ·exact(a8.cut_no af).2.1
  ·refine⟨c7.fr.os,c7.fr.tape,c7.fr.output,c7.fr.size,c7.fr.block,c7.fr.keep,c7.fr.fresh,fun n b h=>?_,c7.fr.obn,fun m n u h=>?_,c7.fr.obr,fun k j k' dB b J U=>c7.fr.trd k j k' dB b J.2 U.2,fun k j b ae=>c7.fr.trb k j b ae.2,fun k j b ae=>(by rw[a8.cut_bx ae.1,a8.cut_ow ae.1];exact c7.fr.trn k j b ae.2),c7.fr.sh⟩
   ·have af:inObs s' (.obj n):=by
     cases aq:look (.obj n) s.b with
     |none=>rw[(ab _).1 aq]at h;cases h
     |some x=>exact Av kb _ (by simp[aq])
    rw[a8.cut_bx af];exact c7.fr.obj n b h
   ·have af:inObs s' (.obj m):=by
     cases aq:look (.obj m) s.e with
     |none=>rw[(ab _).2.1 aq]at h;cases h
     |some x=>exact Av ke _ (by simp[aq])
    rw[a8.cut_ow af];exact c7.fr.row m n u h
 rcases h w ν a7 kC oF with⟨qP,ar⟩|⟨v,w',ar,rV⟩
 ·exact .inl ⟨qP,ar.mono hm⟩
 ·exact .inr ⟨v,w',ar,hm _ _ rV⟩
theorem cX.grown{C:fh}{st:bh}{a:Act}{w w':World}{ν:a8}(h:cX C st a w ν)(aR:w.grownBy w' none):cX C st a w' ν:=by
 have kW:lD w ν w' ν:=⟨fun b o ba=>⟨ba,E9 aR (h.good.alt b o ba)⟩,fun _ _ _ h=>h,fun _ n u _ h=>⟨n,u,h,.inl ⟨rfl,rfl⟩⟩,fun b o ba=>w1 (aR.block b (h.good.alt b o ba) (by simp)),fun _ _ _ _ h=>h⟩;refine h.over kW rfl ⟨fun b o ba=>Nat.lt_of_lt_of_le (h.good.alt b o ba) aR.size,fun k cs ad=>?_,h.good.inj,fun g o eD=>?_,h.good.oinj,h.good.obx,h.good.one,h.good.otr⟩
  ⟨aR.os.trans h.fr.os,aR.tape.trans h.fr.tape,aR.output.trans h.fr.output,jR h.fr.size aR.size,fun k ad hm=>?_,fun b o ba=>?_,h.fr.fresh,h.fr.obj,h.fr.obn,h.fr.row,h.fr.obr,h.fr.trd,fun k j b ae=>⟨(h.fr.trb k j b ae).1,Nat.lt_of_lt_of_le (h.fr.trb k j b ae).2 aR.size⟩,h.fr.trn,fun b o ba=>(kW.sh b o (h.fr.keep b o ba).1).trans (h.fr.sh b o ba)⟩ h.new
 ·obtain⟨bl,us,el,g1,g2,g3,g4,g5⟩:=h.good.box k cs ad;exact⟨bl,us,el,g1,g2,g3,by rw[aR.block bl (Array.getElem?_eq_some_iff.1 g4).1 (by simp)];exact g4,qh kW g5⟩
 ·obtain⟨v,us,g1,g2,g3,g4⟩:=h.good.own g o eD;exact⟨v,us,g1,g2.kept aR (by cases v.ownBlock<;>simp),g3,sl kW (fun _ _ _ h=>h) g4⟩
 ·rw[aR.block k (Nat.lt_of_lt_of_le ad h.fr.size) (by simp)];exact h.fr.block k ad hm
 ·obtain⟨aS,bc⟩:=h.fr.keep b o ba;exact⟨aS,(kW.A b o aS).2.trans bc⟩
theorem cM.new{P:cA}{n:Nat}{args:List ah}{st:bh}{d:Option Nat}{K:bh→Prop}{s:cI}{Q:ah→cI→Prop}(aO:bC P n args s Q)(af:dL s)(ae:∀k cs,look k s.b=some cs→look k st.b=some cs)(he:∀k o,look k s.e=some o→look k st.e=some o)
  (ad:aN (inObs s) args) (h:∀r s',Q r s'→(∀m,inObs s' (.obj m)→inObs s (.obj m)∧Same s s'∨ .obj m∉st.o)∧K ⟨eS d r st.t,b0 s.b st.b++s'.b,b0 s.e st.e++s'.e,st.n,st.o++cZ s'⟩):cM P n args st d K:=by
 refine .inl ⟨s,Q,fun k cs ar=>⟨ae k cs ar,.inl (by simp[ar]),af.kb k cs ar⟩,fun k o av=>⟨he k o av,.inr (by simp[av]),af.ke k o av⟩,af.obj,ad,aO,fun r s' bu=>?_⟩;obtain⟨J,U⟩:=h r s' bu;refine⟨⟨fun m hm=>?_,fun m hm=>?_⟩,U⟩
 ·rcases J m (.inl hm)with⟨_,ao⟩|ao
  ·exact .inl (by rw[ao.b];exact hm)
  ·exact .inr ao
 ·rcases J m (.inr hm)with⟨_,ao⟩|ao
  ·exact .inl (by rw[ao.e];exact hm)
  ·exact .inr ao
theorem cJ.new{eG:List bA}{s:cI}{Q:ah→cI→Prop}{e:Exit}{st:bh}(s':cI)(rP:e= .ret∨e= .normal)(af:dL s')(fk:kY s' s.b∧kY s' s.e)(ae:∀k cs,look k s'.b=some cs→look k st.b=some cs)(dk:∀k o,look k s'.e=some o→look k st.e=some o)
  (h:cP st eG fun r=>aH (inObs s') r∧Q r s'):cJ eG s Q e st:=by
 unfold cP at h;split at h
 ·rename_i c cq aK;refine⟨rP,?_⟩;rw[aK];exact⟨h.1,s',fk.1,fk.2,fun k cs df=>⟨ae k cs df,.inl (by simp[df]),af.kb k cs df⟩,fun k o av=>⟨dk k o av,.inr (by simp[av]),af.ke k o av⟩,af.obj,h.2.1,h.2.2⟩
 ·exact h.elim
@[simp] theorem an8{P:cA}{ob:List aJ}{c d:C}{Q:Exit→bh→Prop}{st:bh}{s:Nat}:c1 P ob (.seq (.pub s c) d) Q st=xi P ob (.seq c d) Q (wS st s):=by simp only[c1];cases wS st s<;>rfl
@[simp] theorem an7{P:cA}{ob:List aJ}{c d:C}{Q:Exit→bh→Prop}{st:bh}{s:Nat}:c1 P ob (.seq (.pubB s c) d) Q st=xi P ob (.seq c d) Q (wR st s):=by simp only[c1];cases wR st s<;>rfl
end Go.Pv
namespace Go.Pv
open Go Go.RowKit
def uQ(t:List (Nat×ah))(b7:List Nat):List (Nat×ah):=b7.map fun k=>(k,get k t)
@[simp] theorem apc(t:List (Nat×ah)):uQ t []=[]:=rfl
@[simp] theorem apa(t:List (Nat×ah))(k:Nat)(b7:List Nat):uQ t (k::b7)=(k,get k t)::uQ t b7:=rfl
def pA(st:bh)(b7:List Nat)(cs:List (Nat×ah)):bh:=⟨uQ st.t b7++cs,st.b,st.e,st.n,st.o⟩
theorem ahw(t:List (Nat×ah))(b:List (aJ×List ah))(e:List (aJ×fL))(n:Nat)(o:List aJ)(b7:List Nat)(cs:List (Nat×ah)):pA ⟨t,b,e,n,o⟩ b7 cs=⟨uQ t b7++cs,b,e,n,o⟩:=rfl
def y9{α:Type}(S:Nat→α→bh)(n:Nat)(gQ:Nat→α→Prop)(k:Nat)(st:bh):Prop:= ∃i a,i≤n∧k=n-i∧gQ i a∧st=S i a
section
variable {P:cA} {ob:List aJ} {st:bh} {Q:Exit→bh→Prop} {c:C} {α:Type}
theorem iN(S:Nat→α→bh)(n:Nat)(gQ:Nat→α→Prop)(a0:α)(hw:iM ob st (S 0 a0))(bD:gQ 0 a0)(s6:∀a,gQ n a→(∀i,fY (get i (S n a).t))→c1 P ob c (bN ob (y9 S n gQ) 0 Q) (S n a))
  (jJ:∀i a,i<n→gQ i a→(∀j,fY (get j (S i a).t))→c1 P ob c (bN ob (y9 S n gQ) (n-i) Q) (S i a)):c1 P ob (.loop c) Q st:=by
 refine mX (y9 S n gQ) n _ hw ⟨0,a0,by omega,by omega,bD,rfl⟩ ?_;rintro k s ⟨i,a,hi,rfl,ag,rfl⟩ ae _;rcases Nat.lt_or_ge i n with h|h
 ·exact jJ i a h ag ae
 ·obtain rfl:i=n:=by omega
  rw[Nat.sub_self];exact s6 a ag ae
theorem bN.rng{S:Nat→α→bh}{n:Nat}{gQ:Nat→α→Prop}{i:Nat}(be:α)(hi:i<n)(ag:gQ (i+1) be)(hw:iM ob st (S (i+1) be)):bN ob (y9 S n gQ) (n-i) Q .normal st:=⟨n-(i+1),_,by omega,hw,i+1,be,by omega,rfl,ag,rfl⟩
def BI{α:Type}(S:α→bh)(μ:α→Nat)(gQ:α→Prop)(k:Nat)(st:bh):Prop:= ∃a,k=μ a∧gQ a∧st=S a
theorem ou(S:α→bh)(μ:α→Nat)(gQ:α→Prop)(a0:α)(hw:iM ob st (S a0))(bD:gQ a0)
  (jJ:∀a,gQ a→(∀j,fY (get j (S a).t))→c1 P ob c (bN ob (BI S μ gQ) (μ a) Q) (S a)):c1 P ob (.loop c) Q st:=by
 refine mX (BI S μ gQ) (μ a0) _ hw ⟨a0,rfl,bD,rfl⟩ ?_;rintro k s ⟨a,rfl,ag,rfl⟩ ae _;exact jJ a ag ae
theorem bN.whl{S:α→bh}{μ:α→Nat}{gQ:α→Prop}{k:Nat}(be:α)(hm:μ be<k)(ag:gQ be)(hw:iM ob st (S be)):bN ob (BI S μ gQ) k Q .normal st:=⟨μ be,_,hm,hw,be,rfl,ag,rfl⟩
end
theorem jl{p:Prop}(h:p:=by(try simp[*]);(repeat' first|with_reducible refine aj ?_|with_reducible refine aB (by assumption) ?_|with_reducible refine aC (by assumption) ?_|simp[*]);(all_goals first|exact bN.rng () (by assumption) (by first|assumption|trivial) b3|exact bN.rng _ (by assumption) (by assumption) b3)):p:=h
end Go.Pv
namespace Go.Pv
open Go Go.RowKit
def mf(s:cI)(n:Nat)(k:aJ):Prop:=inObs s k∨ ∃m,m<n∧k= .loc m
@[simp] theorem Vh(s:cI)(n m:Nat)(hm:m<n):mf s n (.loc m):= .inr ⟨m,hm,rfl⟩
theorem AS{s:cI}{n:Nat}{l:List ah}(h:aN (inObs s) l):aN (mf s n) l:=jX (fun _ h=>.inl h) l h
theorem yu{s s':cI}(fk:Same s s'){n:Nat}{k:aJ}(h:mf s' n k):¬fresh n (cZ s) k:=by
 rcases h with h|⟨m,hm,rfl⟩
 ·exact fun aO=>aO.2 (tE ((fk.inObs k).2 h))
 ·intro aO;have:=aO.1;simp at this;omega
theorem iM.obL{s s':cI}(fM:dL s')(fk:Same s s'){st:bh}{dF:List (Nat×ah)}{L:List (aJ×List ah)}{n:Nat}(aL:∀x∈dF,get x.1 st.t=x.2∧aH (mf s' n) x.2)(hg:∀x∈L,look x.1 st.b=some x.2∧mf s' n x.1∧aN (mf s' n) x.2)
  (ae:∀k cs,look k s'.b=some cs→look k st.b=some cs) (he:∀k o,look k s'.e=some o→look k st.e=some o):iM (cZ s) st ⟨dF,L++s'.b,s'.e,n,cZ s⟩:=by
 refine⟨fun x ab=>⟨(aL x ab).1,wA (fun k ad=>yu fk ad) _ (aL x ab).2⟩,fun k cs ad=>?_,fun k o av=>?_,fun m hm=>hm⟩
 ·simp only at ad;rw[cH]at ad;cases aq:look k L with
  |some x=>rw[aq]at ad;simp only[dw]at ad;subst ad;obtain⟨J,U,ao⟩:=hg _ (tv aq);exact⟨J,yu fk U,jX (fun k ad=>yu fk ad) _ ao⟩
  |none=>rw[aq]at ad;exact⟨ae k cs ad,yu fk (.inl (.inl (by simp[ad]))),jX (fun k ad=>yu fk (.inl ad)) _ (fM.kb k cs ad)⟩
 ·exact⟨he k o av,yu fk (.inl (.inr (by simp at av;simp[av]))),fun xs ab=>jX (fun k ad=>yu fk (.inl ad)) _ (fM.ke k o av xs ab)⟩
def hn{α:Type}(l:List α)(i j:Nat):List α:=match l[i]?,l[j]? with
 |some x,some y=>(l.set i y).set j x
 |_,_=>l
section
variable {α:Type}
@[simp] theorem ag3(l:List α)(i j:Nat):(hn l i j).length=l.length:=by unfold hn;split<;>simp
theorem AH(l:List α)(i j k:Nat)(hi:i<l.length)(ag:j<l.length):(hn l i j)[k]? =if k=i then l[j]? else if k=j then l[i]? else l[k]?:=by
 unfold hn;rw[cb hi,cb ag];simp only[List.getElem?_set,List.length_set];by_cases J:j=k
 ·subst J;by_cases U:j=i
  ·subst U;simp[hi]
  ·simp[U,ag]
 ·by_cases U:i=k
  ·subst U;simp[J,hi]
  ·simp[J,U,la J,la U]
theorem UM(l:List α)(i j:Nat):(hn l i j).Perm l:=by
 unfold hn;split
 ·rename_i x y ab aD;obtain⟨hi,rfl⟩:=fU.1 ab;obtain⟨ag,rfl⟩:=fU.1 aD;exact List.set_set_perm hi ag
 ·exact .refl _
inductive gw (a b:Nat):List α→List α→Prop
 |refl (l:List α):gw a b l l
 |step {l m:List α} {i j:Nat}:gw a b l m→a≤i→i<b→a≤j→j<b→i<m.length→j<m.length→gw a b l (hn m i j)
theorem gw.length{a b:Nat}{l m:List α}(h:gw a b l m):m.length=l.length:=by
 induction h with
 |refl=>rfl
 |step _ _ _ _ _ _ _ bP=>rw[ag3,bP]
theorem gw.perm{a b:Nat}{l m:List α}(h:gw a b l m):m.Perm l:=by
 induction h with
 |refl=>exact .refl _
 |step _ _ _ _ _ _ _ bP=>exact(UM _ _ _).trans bP
theorem gw.out{a b:Nat}{l m:List α}(h:gw a b l m)(k:Nat)(ad:k<a∨b≤k):m[k]? =l[k]?:=by
 induction h with
 |refl=>rfl
 |step _ J U ao a1 b2 dc bP=>rw[AH _ _ _ _ b2 dc,if_neg (by omega),if_neg (by omega)];exact bP
theorem gw.all{a b:Nat}{l m:List α}(h:gw a b l m)(p:α→Prop)(bB:∀k x,a≤k→k<b→l[k]? =some x→p x):∀k x,a≤k→k<b→m[k]? =some x→p x:=by
 induction h with
 |refl=>exact bB
 |step _ J U ao a1 b2 dc bP=>
  intro k x gz ka ab;rw[AH _ _ _ _ b2 dc]at ab;split at ab
  ·exact bP _ _ ao a1 ab
  ·split at ab
   ·exact bP _ _ J U ab
   ·exact bP _ _ gz ka ab
theorem gw.trans{a b:Nat}{l m r:List α}(h:gw a b l m)(cr:gw a b m r):gw a b l r:=by
 induction cr with
 |refl=>exact h
 |step _ J U ao a1 b2 dc bP=>exact .step bP J U ao a1 b2 dc
theorem gw.mono{a b be bV:Nat}{l m:List α}(h:gw a b l m)(bk:be≤a)(ae:b≤bV):gw be bV l m:=by
 induction h with
 |refl=>exact .refl _
 |step _ J U ao a1 b2 dc bP=>exact .step bP (by omega) (by omega) (by omega) (by omega) b2 dc
def fj(lt:α→α→Bool)(a b:Nat)(l:List α):Prop:= ∀i j x y,a≤i→i<j→j<b→l[i]? =some x→l[j]? =some y→lt y x=false
structure qy (lt:α→α→Bool):Prop where
 asym:∀x y,lt x y=true→lt y x=false
 ntr:∀x y z,lt y x=false→lt z y=false→lt z x=false
theorem fj.pairwise{lt:α→α→Bool}{l:List α}(h:fj lt 0 l.length l):l.Pairwise fun x y=>lt y x=false:=by rw[pK];intro i j hi ag l8;exact h i j _ _ (by omega) l8 ag (cb hi) (cb ag)
def h4(a m b k:Nat):Nat:=if k<a then k else if k<a+(b-m)then k+(m-a)else if k<b then k-(b-m)else k
def su(a b c k:Nat):Nat:=if a≤k∧k<a+c then b+(k-a)else if b≤k∧k<b+c then a+(k-b)else k
end
theorem FF(i j:Nat)(h:i+j≤1099511627776):mN.wrap (Int.fdiv (ht.wrap ((i:Int)+j)) (2 ^ (min 1 ht.bits)))=((i+j)/2:Nat):=by
 have hw:ht.wrap ((i:Int)+j)=i+j:=by simp[sB,nF,rl];omega
 have Km:ht.bits=64:=rfl;rw[hw,Km,show(2:Int) ^ (min 1 64)=2 from by decide,Int.fdiv_eq_ediv_of_nonneg _ (by omega),ml]
 ·omega
 ·omega
end Go.Pv
namespace Go.Pv
open Go Go.RowKit
section
variable {P:cA} {ob:List aJ} {st:bh} {Q:Exit→bh→Prop} {c:C} {α:Type}
theorem eC(b7:List Nat)(cs:Nat→α→List (Nat×ah))(n:Nat)(gQ:Nat→α→Prop)(a0:α)(hw:iM ob st (pA st b7 (cs 0 a0)))(bD:gQ 0 a0)(s6:∀a,gQ n a→(∀i,fY (get i (pA st b7 (cs n a)).t))→c1 P ob c (bN ob (y9 (fun i a=>pA st b7 (cs i a)) n gQ) 0 Q) (pA st b7 (cs n a)))
  (jJ:∀i a,i<n→gQ i a→(∀j,fY (get j (pA st b7 (cs i a)).t))→c1 P ob c (bN ob (y9 (fun i a=>pA st b7 (cs i a)) n gQ) (n-i) Q) (pA st b7 (cs i a))):c1 P ob (.loop c) Q st:=
 iN (fun i a=>pA st b7 (cs i a)) n gQ a0 hw bD s6 jJ
theorem vM(b7:List Nat)(cs:α→List (Nat×ah))(μ:α→Nat)(gQ:α→Prop)(a0:α)(hw:iM ob st (pA st b7 (cs a0)))(bD:gQ a0)
  (jJ:∀a,gQ a→(∀j,fY (get j (pA st b7 (cs a)).t))→c1 P ob c (bN ob (BI (fun a=>pA st b7 (cs a)) μ gQ) (μ a) Q) (pA st b7 (cs a))):c1 P ob (.loop c) Q st:=
 ou (fun a=>pA st b7 (cs a)) μ gQ a0 hw bD jJ
end
attribute [simp] ahw
end Go.Pv
namespace Go.Proofs.YtohaalphocaebaaGreat
open Go Go.Pv
def Qi:C:=(aa [cS 6 e1] (aa [I 7 0,I 8 1,ck 9 45 7 8,I 10 2,cT 11 44 [.t 9,.t 10,(dN 5)],bz 5 6 11] .ret))
@[simp] def akv:List bA:=[.cell 6 true 5]
def Qj:C:=(aa [cS 8 du] (aa [I 9 0,I 10 1,ck 11 45 9 10,I 12 2,I 13 3,cT 14 46 [.t 11,.t 12,.t 13],bz 4 8 14] .ret))
@[simp] def Wx:List bA:=[.cell 8 true 4]
@[simp] def aqU:List bA:=[.tmp 4]
def QR:C:=(aa [cS 6 e1] (aa [I 12 1,gJ 13 e1 [(0,1,(.t 12))],cS 7 e1,bz 5 7 13] (.seq (aa [I 14 0,I 15 2,aU 16 .add 15 1,ck 17 110 14 16,I 8 17] (.block 0 (.loop (.seq (aa [I 18 8,aU 19 .gtr 18 0] (aZ 19 .skip (.exit 0))) (.seq (.block 1 (aa [I 22 0,I 23 1,cT 24 46 [.t 22,(dN 3),.t 23],cS 9 du,bz 4 9 24] (.seq (.drawn false 46 [aX 26 5 7,I 27 0,cT 28 110 [.t 27,(dN 4)],aX 29 4 9,I 30 0,I 31 1,cT 32 46 [.t 30,(dN 5),.t 31],I 33 0,cT 34 110 [.t 33,(dN 2)],bW 35 (.bin .add false (dN 2) (.t 34)),I 36 0,c0 (.bsl 37 1 9 [(.c (.str [97])),(.c (.str [98]))]),ck 38 111 36 37,cT 39 93 [.t 26,.t 28,.t 29,.t 32,.t 35,.t 38],I 25 39,cd 40 0 25,cd 41 1 25,cS 10 e1,bz 5 10 40,I 11 41]) (aa [I 42 11] (aZ 42 (.region [aX 43 5 10,bz 5 7 43]) .skip))))) (.region [I 20 8,aU 21 .sub 20 1,I 8 21])))))) (aa [aX 44 5 7,cL 45 112 44,bz 5 6 45] .ret))))
@[simp] def MX:List bA:=[.cell 6 true 5]
def QT:C:=(aa [bW 4 (.mov (.c (.nilp)))] (aa [I 7 0,cL 8 113 7,I 5 8] (.seq (aa [cc 6 0] (.block 0 (.loop (.seq (aa [I 9 6,I 10 1,br 11 .lss 9 10] (aZ 11 .skip (.exit 0))) (.seq (.block 1 (.region [I 14 5,cL 15 53 14])) (.region [I 12 6,aU 13 .add 12 1,I 6 13])))))) (aa [I 16 5,I 4 16] .ret))))
@[simp] def WM:List bA:=[.tmp 4]
def Qt:C:=(aa [cS 6 du] (aa [I 9 0,cT 10 110 [.t 9,(dN 8)],I 7 10] (.seq (aa [I 11 1,aU 12 .gtr 11 2,I 13 12,bZ 13 true 14 7,al 13 true (aU 15 .geq 14 3),dv 16 13 15] (aZ 16 (aa [I 17 0,I 18 1,aU 19 .quo 18 2,I 20 2,cT 21 46 [.t 17,.t 19,.t 20],cS 8 du,bz 4 8 21] (.seq (.drawn false 42 [aX 22 4 8,I 23 0,I 24 1,aU 25 .quo 24 2,I 26 2,cT 27 46 [.t 23,.t 25,.t 26],ck 28 114 22 27,bz 4 6 28]) .ret)) .skip)) (.seq (aa [I 29 2,aU 30 .gtr 29 0,I 31 30,bZ 31 true 32 7,al 31 true (aU 33 .rem 32 2),al 31 true (aU 34 .eql 33 0),dv 35 31 34] (aZ 35 (aa [I 36 0,I 37 2,ck 38 110 36 37,cL 39 91 38,bz 4 6 39] .ret) .skip)) (aa [I 40 0,cL 41 115 40,bz 4 6 41] .ret)))))
@[simp] def Hk:List bA:=[.cell 6 true 4]
def Jf:C:=(aa [cc 2 0] (aa [I 4 0,I 5 0,eI 6 5,aF 7 2 1 6,aw 8 1 7,bW 9 (.bin .mul true (.t 8) (dN 6364136223846793005)),bW 10 (.bin .add true (.t 9) (dN 1442695040888963407)),eI 11 4,aF 12 2 1 11,bz 1 12 10] (.seq (.drawn true 58 [I 13 0,eI 14 13,aF 15 2 1 14,aw 16 1 15,bW 17 (.bin .shr false (.t 16) (.c (.int .u64 33))),I 18 0,eI 19 18,aF 20 2 1 19,aw 21 1 20,bW 22 (.bin .shr false (.t 21) (.c (.int .u64 45))),br 23 .xor 17 22,aU 24 .and 23 255,I 3 24]) (.seq (.seq (.drawn true 58 [I 25 0,eI 26 25,aF 27 1 1 26,aw 28 1 27,I 29 0,eI 30 29,aF 31 0 1 30,aw 32 1 31,cv 33 32,br 34 .lss 28 33]) (aZ 34 (.seq (.drawn true 58 [I 35 3,I 36 0,eI 37 36,aF 38 0 1 37,aw 39 1 38,I 40 0,eI 41 40,aF 42 1 1 41,aw 43 1 42,cw 44 1 39 43,aw 45 1 44,bW 46 (.conv .i64 (.t 45)),br 47 .add 35 46,aU 48 .and 47 255,I 3 48]) (.region [I 49 0,I 50 0,eI 51 50,aF 52 1 1 51,aw 53 1 52,aU 54 .add 53 1,eI 55 49,aF 56 1 1 55,bz 1 56 54])) .skip)) (aa [I 57 3,I 2 57] .ret)))))
@[simp] def MN:List bA:=[.tmp 2]
def Qn:C:=(aa [cc 4 0] (.seq (aa [I 5 1,aU 6 .leq 5 0] (aZ 6 (aa [cc 4 0] .ret) .skip)) (aa [I 7 0,cL 8 53 7,I 9 1,br 10 .rem 8 9,I 4 10] .ret)))
@[simp] def MM:List bA:=[.tmp 4]
def Qq:C:=(aa [bW 4 (.mov (.c (.str [])))] (aa [I 5 1,I 6 0,I 7 1,cv 8 7,ck 9 110 6 8,cw 10 1 5 9,aw 11 1 10,I 4 11] .ret))
@[simp] def WA:List bA:=[.tmp 4]
def Qp:C:=(aa [bW 2 (.mov (.c (.nilp)))] (aa [I 5 0,cv 6 5,bW 7 (.bin .add false (dN 90411) (.t 6)),I 3 7] (.seq (aa [cc 4 0] (.block 0 (.loop (.seq (aa [I 8 4,I 9 0,cv 10 9,br 11 .lss 8 10,I 12 11,bZ 12 true 13 4,al 12 true (aU 14 .lss 13 4000),dv 15 12 14] (aZ 15 .skip (.exit 0))) (.seq (.block 1 (.region [I 18 3,aU 19 .mul 18 131,I 20 0,I 21 4,cw 22 1 20 21,aw 23 1 22,bW 24 (.conv .i64 (.t 23)),br 25 .add 19 24,aU 26 .add 25 7,aU 27 .and 26 1073741823,I 3 27])) (.region [I 16 4,aU 17 .add 16 1,I 4 17])))))) (aa [I 28 0,I 29 3,bW 30 (.build [.slice 1 .nil [],.int .i64 0,.int .i64 0] [(0,1,(.t 28)),(2,1,(.t 29))]),c0 (.box 31 (some 401) (.t 30)),I 2 31] .ret))))
@[simp] def Wz:List bA:=[.tmp 2]
def Qr:C:=(aa [cS 2 du] (aa [I 4 0,cT 5 110 [.t 4,(dN 7)],I 3 5] (.seq (aa [I 6 3,aU 7 .lss 6 2] (aZ 7 (aa [I 8 3,cL 9 192 8,bz 4 2 9] .ret) .skip)) (.seq (aa [I 10 3,aU 11 .lss 10 5] (aZ 11 (aa [c0 (.bsl 12 1 9 [(.c (.str [97])),(.c (.str [98])),(.c (.str [99]))]),I 13 3,aU 14 .sub 13 2,cw 15 1 12 14,aw 16 1 15,cL 17 184 16,bz 4 2 17] .ret) .skip)) (aa [gJ 18 du [],bz 4 2 18] .ret)))))
@[simp] def WB:List bA:=[.cell 2 true 4]
def QB:C:=(aa [cS 2 du] (aa [I 3 0,gJ 4 du [(0,1,(dN 2)),(2,1,(.t 3))],bz 4 2 4] .ret))
@[simp] def WI:List bA:=[.cell 2 true 4]
def Qw:C:=(aa [cS 2 du] (aa [I 3 0,gJ 4 du [(0,1,(dN 3)),(1,1,(.t 3))],bz 4 2 4] .ret))
@[simp] def WD:List bA:=[.cell 2 true 4]
def qm:List (Nat×dx):=[
 (3,⟨1,8,.int .i64,.int .i64 0⟩),
 (5,⟨1,1,.int .u8,.int .u8 0⟩),
 (9,⟨1,16,.str,.str []⟩),
 (22,⟨1,24,.slice 5,.slice 1 .nil []⟩),
 (23,⟨1,24,.slice 61,.slice 5 .nil []⟩),
 (24,⟨1,24,.slice 23,.slice 1 .nil []⟩),
 (25,⟨1,24,.slice 104,.slice 2 .nil []⟩),
 (26,⟨1,24,.slice 106,.slice 2 .nil []⟩),
 (28,⟨5,104,.struct [(0,3),(1,23),(2,24),(3,25),(4,26)],.agg [.int .i64 0,.slice 5 .nil [],.slice 1 .nil [],.slice 2 .nil [],.slice 2 .nil []]⟩),
 (30,⟨1,24,.slice 32,.slice 4 .nil []⟩),
 (32,⟨4,56,.struct [(0,3),(1,3),(2,9),(3,30)],.agg [.int .i64 0,.int .i64 0,.str [],.slice 4 .nil []]⟩),
 (145,⟨1,24,.slice 9,.slice 1 .nil []⟩),
 (162,⟨3,40,.struct [(0,22),(1,3),(2,3)],.agg [.slice 1 .nil [],.int .i64 0,.int .i64 0]⟩)]
theorem qn:fP az qm=true:=by kernel_rfl
theorem ai0:b4 qm Qi akv 3 Tryz.f10=true:=by kernel_rfl
theorem acg:az.funcs[(10:Nat)]? =some Tryz.f10:=Tryz.func10
theorem ai1:b4 qm Qj Wx 4 Tryz.f11=true:=by kernel_rfl
theorem ach:az.funcs[(11:Nat)]? =some Tryz.f11:=Tryz.func11
theorem ajz:b4 qm QR MX 3 Tryz.f44=true:=by kernel_rfl
theorem acR:az.funcs[(44:Nat)]? =some Tryz.f44:=Tryz.func44
theorem ajB:b4 qm QT WM 2 Tryz.f45=true:=by kernel_rfl
theorem acT:az.funcs[(45:Nat)]? =some Tryz.f45:=Tryz.func45
theorem ajb:b4 qm Qt Hk 3 Tryz.f46=true:=by kernel_rfl
theorem acs:az.funcs[(46:Nat)]? =some Tryz.f46:=Tryz.func46
theorem Vz:b4 qm Jf MN 1 Tryz.f53=true:=by kernel_rfl
theorem RM:az.funcs[(53:Nat)]? =some Tryz.f53:=Tryz.func53
theorem ai5:b4 qm Qn MM 2 Tryz.f110=true:=by kernel_rfl
theorem acm:az.funcs[(110:Nat)]? =some Tryz.f110:=Tryz.func110
theorem ai8:b4 qm Qq WA 2 Tryz.f111=true:=by kernel_rfl
theorem acp:az.funcs[(111:Nat)]? =some Tryz.f111:=Tryz.func111
theorem ai7:b4 qm Qp Wz 1 Tryz.f113=true:=by kernel_rfl
theorem aco:az.funcs[(113:Nat)]? =some Tryz.f113:=Tryz.func113
theorem ai9:b4 qm Qr WB 1 Tryz.f115=true:=by kernel_rfl
theorem acq:az.funcs[(115:Nat)]? =some Tryz.f115:=Tryz.func115
theorem ajj:b4 qm QB WI 1 Tryz.f184=true:=by kernel_rfl
theorem acB:az.funcs[(184:Nat)]? =some Tryz.f184:=Tryz.func184
theorem aje:b4 qm Qw WD 1 Tryz.f192=true:=by kernel_rfl
theorem acw:az.funcs[(192:Nat)]? =some Tryz.f192:=Tryz.func192
end Go.Proofs.YtohaalphocaebaaGreat
namespace Go.Pv
open Go
inductive bU where
 |mk (kind n:Int) (name:List cQ) (args:List bU)
def bU.kind:bU→Int| .mk k _ _ _=>k
def bU.num:bU→Int| .mk _ n _ _=>n
def bU.name:bU→List cQ| .mk _ _ s _=>s
def bU.args:bU→List bU| .mk _ _ _ a=>a
mutual
def enc:bU→ah
 | .mk k n s a=>.agg [.int .i64 k,.int .i64 n,.str s,.slice 4 .no (qK a)]
def qK:List bU→List ah
 |[]=>[]
 |x::xs=>enc x::qK xs
end
theorem Fk:∀l,qK l=l.map enc
 |[]=>rfl
 |x::xs=>by simp[qK,Fk xs]
theorem xA(t:bU):enc t= .agg [.int .i64 t.kind,.int .i64 t.num,.str t.name,.slice 4 .no (t.args.map enc)]:=by cases t;simp[enc,Fk,bU.kind,bU.num,bU.name,bU.args]
mutual
theorem Uy(S:aJ→Prop):∀t:bU,aH S (enc t)
 | .mk k n s a=>by simp[enc,aH,aN,Lt S a]
theorem Lt(S:aJ→Prop):∀l:List bU,aN S (qK l)
 |[]=>by simp[qK,aN]
 |x::xs=>by simp[qK,aN,Uy S x,Lt S xs]
end
mutual
theorem Xt:∀t:bU,dU (enc t)=enc t
 | .mk k n s a=>by simp[enc,dU,di,Nz a]
theorem Nz:∀l:List bU,di (qK l)=qK l
 |[]=>by simp[qK,di]
 |x::xs=>by simp[qK,di,Xt x,Nz xs]
end
@[simp] theorem apy(S:aJ→Prop)(t:bU):aH S (enc t)=True:=eq_true (Uy S t)
@[simp] theorem apn(S:aJ→Prop)(l:List bU):aN S (l.map enc)=True:=by rw[←Fk];exact eq_true (Lt S l)
theorem alD(l:List bU):di (l.map enc)=l.map enc:=by rw[←Fk];exact Nz l
attribute [simp] Xt alD
@[simp] theorem arq(t:bU):eL (enc t)=true:=by rw[xA];rfl
@[simp] theorem anP(t:bU):cells (enc t)=[.int .i64 t.kind,.int .i64 t.num,.str t.name,.slice 4 .no (t.args.map enc)]:=by rw[xA];rfl
@[simp] theorem anc(t:bU):ah.agg [.int .i64 t.kind,.int .i64 t.num,.str t.name,.slice 4 .no (t.args.map enc)]=enc t:=(xA t).symm
@[simp] theorem aoq(off:Nat)(e8:Bool)(sz:Nat)(t:bU):rF off e8 sz (enc t)=if e8 then some (off+sz≤4,.agg (([.int .i64 t.kind,.int .i64 t.num,.str t.name,.slice 4 .no (t.args.map enc)].drop off).take sz))else(([.int .i64 t.kind,.int .i64 t.num,.str t.name,.slice 4 .no (t.args.map enc)]:List ah)[off]?).map fun p=>(True,p):=by rw[xA];rfl
@[simp] theorem aog(off:Nat)(e8:Bool)(sz:Nat)(t:bU):pV off e8 sz (.eptr (enc t))=if e8 then some (off+sz≤4,.eptr (.agg (([.int .i64 t.kind,.int .i64 t.num,.str t.name,.slice 4 .no (t.args.map enc)].drop off).take sz)))else(([.int .i64 t.kind,.int .i64 t.num,.str t.name,.slice 4 .no (t.args.map enc)]:List ah)[off]?).map fun p=>(eL p=true∧cells p=[p],.eptr p):=by rw[xA];rfl
@[simp] theorem ao6(t:bU):Pv.isAgg 4 (enc t):=by rw[xA];exact⟨_,rfl,rfl⟩
inductive T where
 |nil
 |var (n:Int)
 |sym (s:List cQ)
 |num (n:Int)
 |pair (a b:T)
 deriving DecidableEq,Inhabited
def T.tm:T→bU
 | .nil=>.mk 0 0 [] []
 | .var n=>.mk 1 n [] []
 | .sym s=>.mk 2 0 s []
 | .num n=>.mk 3 n [] []
 | .pair a b=>.mk 4 0 [] [a.tm,b.tm]
def T.e:T→ah
 | .nil=>.agg [.int .i64 0,.int .i64 0,.str [],.slice 4 .no []]
 | .var n=>.agg [.int .i64 1,.int .i64 n,.str [],.slice 4 .no []]
 | .sym s=>.agg [.int .i64 2,.int .i64 0,.str s,.slice 4 .no []]
 | .num n=>.agg [.int .i64 3,.int .i64 n,.str [],.slice 4 .no []]
 | .pair a b=>.agg [.int .i64 4,.int .i64 0,.str [],.slice 4 .no [a.e,b.e]]
theorem pR:∀t:T,enc t.tm=t.e
 | .nil| .var _| .sym _| .num _=>rfl
 | .pair a b=>by simp[T.tm,enc,qK,T.e,pR a,pR b]
def T.kind:T→Int
 | .nil=>0| .var _=>1| .sym _=>2| .num _=>3| .pair _ _=>4
def T.int:T→Int
 | .var n=>n| .num n=>n|_=>0
def T.name:T→List cQ
 | .sym s=>s|_=>[]
def T.args:T→List T
 | .pair a b=>[a,b]|_=>[]
theorem T.e_eq(t:T):t.e= .agg [.int .i64 t.kind,.int .i64 t.int,.str t.name,.slice 4 .no (t.args.map T.e)]:=by cases t<;>rfl
@[simp] theorem anb(t:T):ah.agg [.int .i64 t.kind,.int .i64 t.int,.str t.name,.slice 4 .no (t.args.map T.e)]=t.e:=(T.e_eq t).symm
@[simp] theorem ane:ah.agg [.int .i64 0,.int .i64 0,.str [],.slice 4 .no []]=T.nil.e:=rfl
@[simp] theorem ani(n:Int):ah.agg [.int .i64 1,.int .i64 n,.str [],.slice 4 .no []]=(T.var n).e:=rfl
@[simp] theorem anh(s:List cQ):ah.agg [.int .i64 2,.int .i64 0,.str s,.slice 4 .no []]=(T.sym s).e:=rfl
@[simp] theorem anf(n:Int):ah.agg [.int .i64 3,.int .i64 n,.str [],.slice 4 .no []]=(T.num n).e:=rfl
@[simp] theorem ang(a b:T):ah.agg [.int .i64 4,.int .i64 0,.str [],.slice 4 .no [a.e,b.e]]=(T.pair a b).e:=rfl
@[simp] theorem aop(off:Nat)(e8:Bool)(sz:Nat)(t:T):rF off e8 sz t.e=if e8 then some (off+sz≤4,.agg (([.int .i64 t.kind,.int .i64 t.int,.str t.name,.slice 4 .no (t.args.map T.e)].drop off).take sz))else(([.int .i64 t.kind,.int .i64 t.int,.str t.name,.slice 4 .no (t.args.map T.e)]:List ah)[off]?).map fun p=>(True,p):=by rw[T.e_eq];rfl
@[simp] theorem aof(off:Nat)(e8:Bool)(sz:Nat)(t:T):pV off e8 sz (.eptr t.e)=if e8 then some (off+sz≤4,.eptr (.agg (([.int .i64 t.kind,.int .i64 t.int,.str t.name,.slice 4 .no (t.args.map T.e)].drop off).take sz)))else(([.int .i64 t.kind,.int .i64 t.int,.str t.name,.slice 4 .no (t.args.map T.e)]:List ah)[off]?).map fun p=>(eL p=true∧cells p=[p],.eptr p):=by rw[T.e_eq];rfl
@[simp] theorem agN:(T.nil).kind=0:=rfl
@[simp] theorem agd:(T.nil).int=0:=rfl
@[simp] theorem ahD:(T.nil).name=[]:=rfl
@[simp] theorem Zk:(T.nil).args=[]:=rfl
@[simp] theorem agR(n:Int):(T.var n).kind=1:=rfl
@[simp] theorem agi(n:Int):(T.var n).int=n:=rfl
@[simp] theorem ahH(n:Int):(T.var n).name=[]:=rfl
@[simp] theorem Zo(n:Int):(T.var n).args=[]:=rfl
@[simp] theorem agQ(s:List cQ):(T.sym s).kind=2:=rfl
@[simp] theorem agh(s:List cQ):(T.sym s).int=0:=rfl
@[simp] theorem ahG(s:List cQ):(T.sym s).name=s:=rfl
@[simp] theorem Zn(s:List cQ):(T.sym s).args=[]:=rfl
@[simp] theorem agO(n:Int):(T.num n).kind=3:=rfl
@[simp] theorem age(n:Int):(T.num n).int=n:=rfl
@[simp] theorem ahE(n:Int):(T.num n).name=[]:=rfl
@[simp] theorem Zl(n:Int):(T.num n).args=[]:=rfl
@[simp] theorem agP(a b:T):(T.pair a b).kind=4:=rfl
@[simp] theorem agf(a b:T):(T.pair a b).int=0:=rfl
@[simp] theorem ahF(a b:T):(T.pair a b).name=[]:=rfl
@[simp] theorem Zm(a b:T):(T.pair a b).args=[a,b]:=rfl
@[simp] theorem apx(S:aJ→Prop)(t:T):aH S t.e=True:=by rw[←pR];simp
@[simp] theorem arL(t:T):dU t.e=t.e:=by rw[←pR];simp
theorem Ut(S:aJ→Prop):∀l:List T,aN S (l.map T.e)
 |[]=>by simp[aN]
 |x::xs=>by simp[aN,Ut S xs]
@[simp] theorem Us(S:aJ→Prop)(l:List T):aN S (l.map T.e)=True:=eq_true (Ut S l)
@[simp] theorem alC:∀l:List T,di (l.map T.e)=l.map T.e
 |[]=>rfl
 |x::xs=>by simp[di,alC xs]
@[simp] theorem arp(t:T):eL t.e=true:=by rw[T.e_eq];rfl
@[simp] theorem anO(t:T):cells t.e=[.int .i64 t.kind,.int .i64 t.int,.str t.name,.slice 4 .no (t.args.map T.e)]:=by rw[T.e_eq];rfl
@[simp] theorem ao5(t:T):Pv.isAgg 4 t.e:=by rw[T.e_eq];exact⟨_,rfl,rfl⟩
def T.size:T→Nat
 | .pair a b=>1+a.size+b.size
 |_=>1
theorem T.size_pos(t:T):1≤t.size:=by cases t<;>simp[T.size]<;>omega
def low(b:cQ):Bool:=decide (97≤b.toNat∧b.toNat≤122)
def mC(b:cQ):Bool:=low b||decide (48≤b.toNat∧b.toNat≤57)||b.toNat==45
def ib(s:List cQ):Bool:=decide (1≤s.length∧s.length≤12)&&low (s.getD 0 0)&&(s.drop 1).all mC
def T.ok:T→Bool
 | .nil=>true
 | .var n=>decide (0≤n∧n≤100000)
 | .sym s=>ib s
 | .num n=>decide (-1000000000≤n∧n≤1000000000)
 | .pair a b=>a.ok&&b.ok
def ls(k n:Int)(s:List cQ):Bool:=if k=0 then n==0&&s==[]else if k=1 then decide (0≤n∧n≤100000)&&s==[]else if k=2 then n==0&&ib s else if k=3 then decide (-1000000000≤n∧n≤1000000000)&&s==[]else false
def fu:bU→Int→Int
 | .mk k n s [a,b],room=>if room<1∨k≠4∨n≠0∨s≠[]then-1 else if fu a (room-1)<0 then-1 else if fu b (room-1-fu a (room-1))<0 then-1 else 1+fu a (room-1)+fu b (room-1-fu a (room-1))
 | .mk k n s args,room=>if room<1∨k=4∨args≠[]∨ls k n s=false then-1 else 1
theorem L2(k n:Int)(s:List cQ)(args:List bU)(room:Int):fu (.mk k n s args) room=if room<1 then-1 else if k≠4 then(if args≠[]then-1 else if ls k n s then 1 else-1)else if n≠0∨s≠[]then-1 else match args with
  |[a,b]=>if fu a (room-1)<0 then-1 else if fu b (room-1-fu a (room-1))<0 then-1 else 1+fu a (room-1)+fu b (room-1-fu a (room-1))
  |_=> -1:=by
 match args with
 |[]=>simp only[fu];by_cases J:room<1<;>by_cases U:k=4<;>by_cases ao:ls k n s=true<;>simp[J,U,ao]
 |[a]=>simp[fu]
 |[a,b]=>simp only[fu];by_cases J:room<1<;>by_cases U:k=4<;>simp[J,U]
 |a::b::c::r=>simp[fu]
theorem GU:∀(t:T) (room:Int),fu t.tm room=if t.ok=true∧(t.size:Int)≤room then(t.size:Int)else-1
 | .nil,room=>by simp[T.tm,fu,T.ok,T.size,ls];split<;>rename_i h<;>simp_all<;>omega
 | .var n,room=>by simp[T.tm,fu,T.ok,T.size,ls];split<;>split<;>simp_all<;>omega
 | .sym s,room=>by simp[T.tm,fu,T.ok,T.size,ls];by_cases J:room<1<;>by_cases U:ib s=true<;>simp[J,U]<;>omega
 | .num n,room=>by simp[T.tm,fu,T.ok,T.size,ls];split<;>split<;>simp_all<;>omega
 | .pair a b,room=>by
  have bk:=a.size_pos;have ae:=b.size_pos;simp only[T.tm,fu,GU a,GU b,T.ok,T.size,cx];by_cases J:room<1
  ·simp[J];omega
  ·by_cases U:a.ok=true∧(a.size:Int)≤room-1
   ·rw[if_pos U];by_cases ao:b.ok=true∧(b.size:Int)≤room-1-a.size
    ·rw[if_pos ao];simp[J,U.1,ao.1];split<;>omega
    ·rw[if_neg ao];simp[J,U.1];intro hP;have:=ao;simp[hP]at this;omega
   ·rw[if_neg U];simp[J];intro ll;have:=U;simp[ll]at this;omega
theorem Dq:∀(t:bU) (room:Int),fu t room= -1∨1≤fu t room
 | .mk k n s [a,b],room=>by
  simp only[fu];split
  ·exact .inl rfl
  ·split
   ·exact .inl rfl
   ·split
    ·exact .inl rfl
    ·right;omega
 | .mk k n s [],room=>by simp only[fu];split<;>simp
 | .mk k n s [a],room=>by simp[fu]
 | .mk k n s (a::b::c::r),room=>by simp[fu]
theorem L4:∀(t:bU) (room:Int),0<fu t room→∃x:T,x.tm=t
 | .mk k n s [a,b],room,h=>by
  simp only[fu]at h;split at h
  ·omega
  ·rename_i J;simp only[not_or,Int.not_lt,ne_eq,arU]at J;obtain⟨J,rfl,rfl,rfl⟩:=J;split at h
   ·omega
   ·split at h
    ·omega
    ·obtain⟨x,rfl⟩:=L4 a (room-1) (by rcases Dq a (room-1)with h|h<;>omega);obtain⟨y,rfl⟩:=L4 b (room-1-fu x.tm (room-1)) (by rcases Dq b (room-1-fu x.tm (room-1))with h|h<;>omega);exact⟨.pair x y,rfl⟩
 | .mk k n s [],room,h=>by
  simp only[fu]at h;split at h
  ·omega
  ·rename_i J;simp only[not_or,ne_eq,not_true_eq_false,not_false_eq_true,true_and,Bool.not_eq_false]at J;obtain⟨_,_,J⟩:=J;unfold ls at J;split at J
   ·rename_i e;subst e;simp at J;obtain⟨rfl,rfl⟩:=J;exact⟨.nil,rfl⟩
   ·split at J
    ·rename_i e;subst e;simp at J;obtain⟨_,rfl⟩:=J;exact⟨.var n,rfl⟩
    ·split at J
     ·rename_i e;subst e;simp at J;obtain⟨rfl,_⟩:=J;exact⟨.sym s,rfl⟩
     ·split at J
      ·rename_i e;subst e;simp at J;obtain⟨_,rfl⟩:=J;exact⟨.num n,rfl⟩
      ·cases J
 | .mk k n s [a],room,h=>by simp[fu]at h
 | .mk k n s (a::b::c::r),room,h=>by simp[fu]at h
theorem L3:∀(t:bU) (room:Int),fu t room≤room∨fu t room= -1
 | .mk k n s [a,b],room=>by
  simp only[fu];split
  ·exact .inr rfl
  ·split
   ·exact .inr rfl
   ·split
    ·exact .inr rfl
    ·rcases L3 b (room-1-fu a (room-1))with h|h<;>omega
 | .mk k n s [],room=>by simp only[fu];split<;>simp;rename_i h;omega
 | .mk k n s [a],room=>by simp[fu]
 | .mk k n s (a::b::c::r),room=>by simp[fu]
mutual
def bU.sz:bU→Nat
 | .mk _ _ _ a=>1+bU.szL a
def bU.szL:List bU→Nat
 |[]=>0
 |x::xs=>x.sz+bU.szL xs
end
theorem Xw:∀{l:List bU} {x:bU},x∈l→x.sz≤bU.szL l
 |y::l,x,h=>by
  rcases fA.1 h with rfl|h
  ·simp[bU.szL]
  ·have:=Xw h;simp[bU.szL];omega
theorem alH{t x:bU}(h:x∈t.args):x.sz<t.sz:=by cases t;simp[bU.args]at h;have:=Xw h;simp[bU.sz];omega
def T.fit(t:T):Bool:=t.ok&&decide (t.size≤5000)
def bU.fits(t:bU):Bool:=decide (0<fu t 5000)
theorem bU.fits_T(t:T):t.tm.fits=t.fit:=by
 unfold bU.fits T.fit;rw[GU];have:=t.size_pos;by_cases J:t.ok=true<;>by_cases U:t.size≤5000
 ·rw[if_pos ⟨J,by omega⟩];simp[J,U];omega
 ·rw[if_neg (by omega)];simp[U]
 ·rw[if_neg (by simp[J])];simp[J]
 ·rw[if_neg (by simp[J])];simp[J]
theorem bU.fits_ex{t:bU}(h:t.fits=true):∃x:T,x.tm=t∧x.fit=true:=by obtain⟨x,rfl⟩:=L4 t 5000 (by simpa[bU.fits]using h);exact⟨x,rfl,by rw[←bU.fits_T];exact h⟩
structure ak where
 v:Int
 t:T
 deriving DecidableEq,Inhabited
def ak.e(b:ak):ah:= .agg [.int .i64 b.v,.int .i64 b.t.kind,.int .i64 b.t.int,.str b.t.name,.slice 4 .no (b.t.args.map T.e)]
@[simp] theorem ak.eta(b:ak):ak.mk b.v b.t=b:=rfl
@[simp] theorem Oz(v:Int)(t:T):ah.agg [.int .i64 v,.int .i64 t.kind,.int .i64 t.int,.str t.name,.slice 4 .no (t.args.map T.e)]=(ak.mk v t).e:=rfl
@[simp] theorem am6(v:Int):ah.agg [.int .i64 v,.int .i64 0,.int .i64 0,.str [],.slice 4 .no []]=(ak.mk v .nil).e:=rfl
@[simp] theorem ana(v n:Int):ah.agg [.int .i64 v,.int .i64 1,.int .i64 n,.str [],.slice 4 .no []]=(ak.mk v (.var n)).e:=rfl
@[simp] theorem am9(v:Int)(s:List cQ):ah.agg [.int .i64 v,.int .i64 2,.int .i64 0,.str s,.slice 4 .no []]=(ak.mk v (.sym s)).e:=rfl
@[simp] theorem am7(v n:Int):ah.agg [.int .i64 v,.int .i64 3,.int .i64 n,.str [],.slice 4 .no []]=(ak.mk v (.num n)).e:=rfl
@[simp] theorem am8(v:Int)(a b:T):ah.agg [.int .i64 v,.int .i64 4,.int .i64 0,.str [],.slice 4 .no [a.e,b.e]]=(ak.mk v (.pair a b)).e:=rfl
@[simp] theorem apt(S:aJ→Prop)(b:ak):aH S b.e=True:=by simp[ak.e,-Oz]
@[simp] theorem arG(b:ak):dU b.e=b.e:=by simp[ak.e,-Oz]
theorem Uq(S:aJ→Prop):∀l:List ak,aN S (l.map ak.e)
 |[]=>by simp[aN]
 |x::xs=>by simp[aN,Uq S xs]
@[simp] theorem apk(S:aJ→Prop)(l:List ak):aN S (l.map ak.e)=True:=eq_true (Uq S l)
@[simp] theorem Xs:∀l:List ak,di (l.map ak.e)=l.map ak.e
 |[]=>rfl
 |x::xs=>by simp[di,Xs xs]
@[simp] theorem arh(b:ak):eL b.e=true:=rfl
@[simp] theorem anJ(b:ak):cells b.e=[.int .i64 b.v,.int .i64 b.t.kind,.int .i64 b.t.int,.str b.t.name,.slice 4 .no (b.t.args.map T.e)]:=rfl
@[simp] theorem ao3(b:ak):Pv.isAgg 5 b.e:=⟨_,rfl,rfl⟩
@[simp] theorem aon(off:Nat)(e8:Bool)(sz:Nat)(b:ak):rF off e8 sz b.e=if e8 then some (off+sz≤5,.agg (([.int .i64 b.v,.int .i64 b.t.kind,.int .i64 b.t.int,.str b.t.name,.slice 4 .no (b.t.args.map T.e)].drop off).take sz))else(([.int .i64 b.v,.int .i64 b.t.kind,.int .i64 b.t.int,.str b.t.name,.slice 4 .no (b.t.args.map T.e)]:List ah)[off]?).map fun p=>(True,p):=rfl
@[simp] theorem aod(off:Nat)(e8:Bool)(sz:Nat)(b:ak):pV off e8 sz (.eptr b.e)=if e8 then some (off+sz≤5,.eptr (.agg (([.int .i64 b.v,.int .i64 b.t.kind,.int .i64 b.t.int,.str b.t.name,.slice 4 .no (b.t.args.map T.e)].drop off).take sz)))else(([.int .i64 b.v,.int .i64 b.t.kind,.int .i64 b.t.int,.str b.t.name,.slice 4 .no (b.t.args.map T.e)]:List ah)[off]?).map fun p=>(eL p=true∧cells p=[p],.eptr p):=rfl
def T.occ(v:Int):T→Bool
 | .var n=>n==v
 | .pair a b=>a.occ v||b.occ v
 |_=>false
def ez(a b:Int):Int:=if a<b then-1 else if b<a then 1 else 0
def kI(a b:List cQ):Int:=if a=b then 0 else if hB a b then-1 else 1
def eo:T→T→Int
 | .pair a b,.pair c d=>if eo a c=0 then eo b d else eo a c
 |x,y=>if x.kind≠y.kind then ez x.kind y.kind else if x.int≠y.int then ez x.int y.int else kI x.name y.name
structure dV where
 v:Int
 t:bU
def dV.e(b:dV):ah:= .agg [.int .i64 b.v,.int .i64 b.t.kind,.int .i64 b.t.num,.str b.t.name,.slice 4 .no (b.t.args.map enc)]
def ak.b(b:ak):dV:=⟨b.v,b.t.tm⟩
theorem ak.b_e(b:ak):b.b.e=b.e:=by obtain⟨v,t⟩:=b;cases t<;>simp only[ak.b,dV.e,ak.e,T.tm,bU.kind,bU.num,bU.name,bU.args,pR,agN,agR,agQ,agO,agP,agd,agi,agh,age,agf,ahD,ahH,ahG,ahE,ahF,Zk,Zo,Zn,Zl,Zm,gP,mO]
@[simp] theorem dV.eta(b:dV):dV.mk b.v b.t=b:=rfl
@[simp] theorem OA(v:Int)(t:bU):ah.agg [.int .i64 v,.int .i64 t.kind,.int .i64 t.num,.str t.name,.slice 4 .no (t.args.map enc)]=(dV.mk v t).e:=rfl
@[simp] theorem apu(S:aJ→Prop)(b:dV):aH S b.e=True:=by simp[dV.e,-OA]
@[simp] theorem arH(b:dV):dU b.e=b.e:=by simp[dV.e,-OA]
theorem Ur(S:aJ→Prop):∀l:List dV,aN S (l.map dV.e)
 |[]=>by simp[aN]
 |x::xs=>by simp[aN,Ur S xs]
@[simp] theorem apl(S:aJ→Prop)(l:List dV):aN S (l.map dV.e)=True:=eq_true (Ur S l)
@[simp] theorem alB:∀l:List dV,di (l.map dV.e)=l.map dV.e
 |[]=>rfl
 |x::xs=>by simp[di,alB xs]
@[simp] theorem arj(b:dV):eL b.e=true:=rfl
@[simp] theorem anL(b:dV):cells b.e=[.int .i64 b.v,.int .i64 b.t.kind,.int .i64 b.t.num,.str b.t.name,.slice 4 .no (b.t.args.map enc)]:=rfl
@[simp] theorem ao4(b:dV):Pv.isAgg 5 b.e:=⟨_,rfl,rfl⟩
@[simp] theorem aoo(off:Nat)(e8:Bool)(sz:Nat)(b:dV):rF off e8 sz b.e=if e8 then some (off+sz≤5,.agg (([.int .i64 b.v,.int .i64 b.t.kind,.int .i64 b.t.num,.str b.t.name,.slice 4 .no (b.t.args.map enc)].drop off).take sz))else(([.int .i64 b.v,.int .i64 b.t.kind,.int .i64 b.t.num,.str b.t.name,.slice 4 .no (b.t.args.map enc)]:List ah)[off]?).map fun p=>(True,p):=rfl
@[simp] theorem aoe(off:Nat)(e8:Bool)(sz:Nat)(b:dV):pV off e8 sz (.eptr b.e)=if e8 then some (off+sz≤5,.eptr (.agg (([.int .i64 b.v,.int .i64 b.t.kind,.int .i64 b.t.num,.str b.t.name,.slice 4 .no (b.t.args.map enc)].drop off).take sz)))else(([.int .i64 b.v,.int .i64 b.t.kind,.int .i64 b.t.num,.str b.t.name,.slice 4 .no (b.t.args.map enc)]:List ah)[off]?).map fun p=>(eL p=true∧cells p=[p],.eptr p):=rfl
def AU(l:List dV)(i:Nat):Prop:= ∀b,l[i]? =some b→(0≤b.v∧b.v≤100000)∧(∀c,0<i→l[i-1]? =some c→c.v<b.v)∧b.t.fits=true
def zd(l:List dV):Prop:=l.length≤400∧∀i,i<l.length→AU l i
theorem q7:∀a b:T,eo a b=0↔a=b
 | .pair a b,.pair c d=>by
  simp only[eo,T.pair.injEq];split
  ·rename_i h;rw[q7 b d,←q7 a c];simp[h]
  ·rename_i h;simp[h,←q7 a c]
 | .nil,y=>by cases y<;>simp[eo,ez,kI]
 | .var n,y=>by cases y<;>simp[eo,ez,kI]<;>omega
 | .sym s,y=>by cases y<;>simp[eo,ez,kI];rename_i s';by_cases h:s=s'<;>simp[h];by_cases U:hB s s'=true<;>simp[U]
 | .num n,y=>by cases y<;>simp[eo,ez,kI]<;>omega
 | .pair a b,.nil| .pair a b,.var _| .pair a b,.sym _| .pair a b,.num _=>by simp[eo,ez]
def T.sub(f:Int→Option T):T→T
 | .var n=>match f n with|some x=>x|none=>.var n
 | .pair a b=>.pair (a.sub f) (b.sub f)
 |t=>t
def lu(f:Int→Int):T→Int
 | .var n=>if 5001<f n then 5001 else f n
 | .pair a b=>if 5000<lu f a then lu f a else if 5001<1+lu f a+lu f b then 5001 else 1+lu f a+lu f b
 |_=>1
theorem HS(f:Int→Int)(aO:∀v,-1≤f v):∀t,-1≤lu f t∧lu f t≤5001
 | .var n=>by have:=aO n;simp only[lu];split<;>omega
 | .pair a b=>by have:=HS f aO a;have:=HS f aO b;simp only[lu];split<;>(try split)<;>omega
 | .nil| .sym _| .num _=>by simp[lu]
def cV(l:List ak)(v:Int):Option T:=(l.find? fun b=>b.v==v).map (·.t)
end Go.Pv
namespace Go.Proofs.YtohaalphocaebaaGreat
open Go Go.Pv
structure dJ where
 d:List Int
 i:Nat
 h:Int
def hO(d:List Int):List ah:=d.map (ah.int .u8)
def dJ.e(c:dJ):List ah:=[.slice 1 .no (hO c.d),.int .i64 c.i,.int .i64 c.h]
def bJ(c:dJ):cI:=⟨[(.obj 401,c.e)],[]⟩
@[simp] theorem apf(S:aJ→Prop)(d:List Int):aN S (hO d)=True:=by
 apply eq_true;induction d with
 |nil=>simp[-cm,-b6,hO,aN]
 |cons x r bP=>simp only[hO,gP,aN,aH]at bP⊢;exact⟨trivial,bP⟩
@[simp] theorem arI(d:List Int):di (hO d)=hO d:=by
 induction d with
 |nil=>rfl
 |cons x r bP=>simp only[hO,gP,di,dU]at bP⊢;rw[bP]
@[simp] theorem anF(d:List Int):(hO d).length=d.length:=by simp[-cm,-b6,hO]
theorem IU{d:List Int}{i:Nat}{x:Int}(h:d[i]? =some x):(hO d)[i]? =some (.int .u8 x):=by simp[-cm,-b6,hO,h]
theorem dZ(c:dJ):dL (bJ c):=by unfold bJ;exact dL.of ⟨by intro m;simp[-cm,-b6,Pv.look],by intro m;simp[-cm,-b6,Pv.look]⟩ (by simp[-cm,-b6,dJ.e,aN,aH]) (by simp[-cm,-b6])
theorem gl(c cf:dJ):Same (bJ c) (bJ cf):=by refine⟨fun k=>?_,fun k=>rfl⟩;simp only[bJ,Pv.look];split<;>rfl
def sM(d:List Int):Prop:= ∀x∈d,0≤x∧x<256
def AR(h:Int):Int:=mN.wrap (mN.wrap (h*6364136223846793005)+1442695040888963407)
def xp(k:IntKind)(a b:Int):Int:=k.wrap (lX k.bits a&&& lX k.bits b).toNat
def Yz(k:IntKind)(a b:Int):Int:=k.wrap (lX k.bits a ^^^ lX k.bits b).toNat
def Nr(k:IntKind)(a b:Int):Int:=a.fdiv (2 ^ (min b.toNat k.bits))
section
variable (a b:Int)
@[simp] theorem anm:b6 .add false (.int .i64 a) (.int .i64 b)=some (oK (a+b),.int .i64 (a+b)):=by unfold b6 cm;simp[-cm,-b6]
@[simp] theorem ann:b6 .add true (.int .i64 a) (.int .i64 b)=some (True,.int .i64 (mN.wrap (a+b))):=rfl
@[simp] theorem anB:b6 .sub false (.int .i64 a) (.int .i64 b)=some (oK (a-b),.int .i64 (a-b)):=by unfold b6 cm;simp[-cm,-b6]
@[simp] theorem anu:b6 .mul false (.int .i64 a) (.int .i64 b)=some (oK (a*b),.int .i64 (a*b)):=by unfold b6 cm;simp[-cm,-b6]
@[simp] theorem anv:b6 .mul true (.int .i64 a) (.int .i64 b)=some (True,.int .i64 (mN.wrap (a*b))):=rfl
@[simp] theorem anx:b6 .quo false (.int .i64 a) (.int .i64 b)=some (b≠0,.int .i64 (mN.wrap (a.tdiv b))):=rfl
@[simp] theorem anz:b6 .rem false (.int .i64 a) (.int .i64 b)=some (b≠0,.int .i64 (a.tmod b)):=rfl
@[simp] theorem anp:b6 .eql false (.int .i64 a) (.int .i64 b)=some (True,.bool (a==b)):=rfl
@[simp] theorem anw:b6 .neq false (.int .i64 a) (.int .i64 b)=some (True,.bool (a !=b)):=rfl
@[simp] theorem ant:b6 .lss false (.int .i64 a) (.int .i64 b)=some (True,.bool (decide (a<b))):=rfl
@[simp] theorem ans:b6 .leq false (.int .i64 a) (.int .i64 b)=some (True,.bool (decide (a≤b))):=rfl
@[simp] theorem anr:b6 .gtr false (.int .i64 a) (.int .i64 b)=some (True,.bool (decide (b<a))):=rfl
@[simp] theorem anq:b6 .geq false (.int .i64 a) (.int .i64 b)=some (True,.bool (decide (b≤a))):=rfl
@[simp] theorem ano:b6 .and false (.int .i64 a) (.int .i64 b)=some (True,.int .i64 (xp .i64 a b)):=rfl
@[simp] theorem anC:b6 .xor false (.int .i64 a) (.int .i64 b)=some (True,.int .i64 (Yz .i64 a b)):=rfl
@[simp] theorem anA(k:IntKind):b6 .shr false (.int .i64 a) (.int k b)=some (0≤b,.int .i64 (Nr .i64 a b)):=rfl
end
theorem IK(x m:Int)(bD:0≤m)(J:m<9223372036854775807):0≤xp .i64 x m∧xp .i64 x m≤m:=by
 have hm:(lX 64 m).toNat=m.toNat:=by rw[BitVec.toNat_ofInt];omega
 have h:(lX 64 x&&& lX 64 m).toNat≤m.toNat:=by rw[BitVec.toNat_and,hm];exact Nat.and_le_right
 unfold xp;rw[show mN.bits=64 from rfl,ml _ (by omega)];omega
def yr(h:Int):Int:=xp .i64 (Yz .i64 (Nr .i64 h 33) (Nr .i64 h 45)) 255
theorem U8(h:Int):0≤yr h∧yr h≤255:=IK _ _ (by omega) (by omega)
def dJ.byte(c:dJ):Int:=match c.d[c.i]? with|some x=>xp .i64 (yr (AR c.h)+x) 255|none=>yr (AR c.h)
def dJ.next(c:dJ):dJ:=⟨c.d,if c.i<c.d.length then c.i+1 else c.i,AR c.h⟩
theorem dJ.byte_le(c:dJ):0≤c.byte∧c.byte≤255:=by
 unfold dJ.byte;split
 ·exact IK _ _ (by omega) (by omega)
 ·exact U8 _
structure dJ.ok (c:dJ):Prop where
 d:sM c.d
 l:c.d.length≤10000000
 i:c.i≤c.d.length
theorem dJ.ok.next{c:dJ}(h:c.ok):c.next.ok:=⟨h.d,h.l,by have:=h.i;simp only[dJ.next];split<;>omega⟩
set_option maxRecDepth 4000 in
theorem Sf(c:dJ)(ar:c.ok):bC az 53 [.ptr (.obj 401) 0] (bJ c) fun r s'=>r= .int .i64 c.byte∧s'=bJ c.next:=by
 have af:=dZ c;have fM:=dZ c.next;have eF:=gl c c.next;obtain⟨d,i,h⟩:=c;obtain⟨aE,aq,hi⟩:=ar;simp only at aE aq hi;have tc:=U8 (AR h);simp only[yr]at tc;by_cases bm:i<d.length
 ·obtain⟨x,ab⟩:∃x,d[i]? =some x:=⟨_,cb bm⟩;have jT:∀h,(hO d)[i]'h= .int .u8 x:=fun h=>by have:=IU ab;rw[cb h]at this;simpa using this
  have po:=aE x (fR ab);have hw:mN.wrap x=x:=ml _ (by omega);simp only[bJ,dJ.e,dJ.next,bm,if_true]at af fM eF⊢;refine bC.mk mixed qn RM Vz (by simp[-cm,-b6]) af.obj fun aP cF=>?_;unfold Jf;simp[-cm,-b6,bm,jT,hw,←AR.eq_1];(with_reducible repeat' first|((first|apply bG|apply bL|apply bK)<;>intro h<;>try simp[-cm,-b6]at h)|refine aj ?_|simp[-cm,-b6]);refine cJ.at _ (.inl rfl) fM eF aG aG ?_;simp[-cm,-b6,cP,MN,aT,aW,aQ];simp[-cm,-b6,dJ.byte,ab,yr]
 ·have ab:d[i]? =none:=by simp[-cm,-b6];omega
  simp only[bJ,dJ.e,dJ.next,bm,if_false]at af fM eF⊢;refine bC.mk mixed qn RM Vz (by simp[-cm,-b6]) af.obj fun aP cF=>?_;unfold Jf;simp[-cm,-b6,bm,←AR.eq_1];(with_reducible repeat' first|((first|apply bG|apply bL|apply bK)<;>intro h<;>try simp[-cm,-b6]at h)|refine aj ?_|simp[-cm,-b6]);refine cJ.at _ (.inl rfl) fM eF aG aG ?_;simp[-cm,-b6,cP,MN,aT,aW,aQ];simp[-cm,-b6,dJ.byte,ab,yr]
end Go.Proofs.YtohaalphocaebaaGreat
namespace Go.Proofs.YtohaalphocaebaaGreat
open Go Go.Pv
def agn(s:List cQ)(k:Nat)(st:bh):Prop:=∃i:Nat,1≤i∧i≤s.length∧k=s.length-i∧((s.drop 1).all mC=(s.drop i).all mC)∧st=⟨[(0,.str s),(3,.int .i64 i)],[],[],0,[]⟩
theorem tP(s:List cQ):bS az 128 [.str s] (.bool (ib s)):=by
 refine bS.mk mixed fH aa7 ahS (by simp) (by simp[aH]) fun ae=>?_;unfold O8;simp;(with_reducible repeat' first|((first|refine bG (fun h=>?_) fun h=>?_|refine bL (fun h=>?_) fun h=>?_|refine bK (fun h=>?_) fun h=>?_)<;>try simp at h)|refine aj ?_|simp);case refine_1.refine_1.refine_1.refine_2=>
  have aff:ib s=(s.drop 1).all mC:=by simp[ib,low];omega
  rw[aff];refine mX (agn s) (s.length-1) _ ⟨by simp,by simp[gB],by simp[nA],by simp⟩ ⟨1,by omega,by omega,rfl,rfl,rfl⟩ ?_;rintro k st ⟨i,l7,hG,ad,lJ,rfl⟩ je cF;rw[lJ];simp;refine bG (fun bm=>?_) (fun vY=>?_)
  ·simp at bm;have aE:s.drop i=s[i]?.getD 0::s.drop (i+1):=by rw[k9 bm];simp[bm]
   simp;(with_reducible repeat' first|((first|refine bG (fun h=>?_) fun h=>?_|refine bL (fun h=>?_) fun h=>?_|refine bK (fun h=>?_) fun h=>?_)<;>try simp at h)|refine aj ?_|simp);all_goals first
    |(simp[bp,Ha,aT,aW,aQ,aE,mC,low];omega)
    |(simp only[Ev];refine⟨s.length-(i+1),_,by omega,⟨by simp,by simp[gB],by simp[nA],by simp⟩,i+1,by omega,by omega,rfl,?_,rfl⟩;rw[lJ,aE];simp[mC,low];omega)
  ·simp at vY;have:s.drop i=[]:=by simp;omega
   simp[bp,Ha,aT,aW,aQ,this]
 all_goals simp[bp,Ha,aT,aW,aQ,ib,low]
 all_goals omega
theorem Yj(m:Nat):∀(t:bU),t.sz≤m→∀(room:Int),0≤room∧room≤10000→bS az 194 [enc t,.int .i64 room] (.int .i64 (fu t room)):=by
 induction m with
 |zero=>intro t aL;cases t;simp[bU.sz]at aL
 |succ m bP=>
 rintro⟨k,n,s,args⟩ aL room rW;refine bq fH abC ain fun aP=>?_;unfold PE;simp[bU.kind,bU.num,bU.name,bU.args];(with_reducible repeat' first|((first|refine bG (fun h=>?_) fun h=>?_|refine bL (fun h=>?_) fun h=>?_|refine bK (fun h=>?_) fun h=>?_)<;>try simp at h)|refine aj ?_|simp);all_goals try refine cM.val (by simp) (tP _) ?_
 all_goals try simp
 (with_reducible repeat' first|((first|refine bG (fun h=>?_) fun h=>?_|refine bL (fun h=>?_) fun h=>?_|refine bK (fun h=>?_) fun h=>?_)<;>try simp at h)|refine aj ?_|simp);all_goals try simp[bp,Hg,aT,aW,aQ]
 case succ.refine_2.refine_2.refine_1.refine_1.refine_2=>
  rename_i bD J U ao;match args,h with
  |[a,b],_=>
  simp[bU.sz,bU.szL]at aL;subst J U ao;simp;(with_reducible repeat' first|((first|refine bG (fun h=>?_) fun h=>?_|refine bL (fun h=>?_) fun h=>?_|refine bK (fun h=>?_) fun h=>?_)<;>try simp at h)|refine aj ?_|simp);refine cM.val (by simp) (bP a (by omega) (room-1) (by omega)) ?_;simp;have bk:=L3 a (room-1);have nf:=Dq a (room-1);(with_reducible repeat' first|((first|refine bG (fun h=>?_) fun h=>?_|refine bL (fun h=>?_) fun h=>?_|refine bK (fun h=>?_) fun h=>?_)<;>try simp at h)|refine aj ?_|simp)
  ·simp[bp,Hg,aT,aW,aQ];rw[L2];simp;omega
  ·refine cM.val (by simp) (bP b (by omega) (room-1-fu a (room-1)) (by omega)) ?_;simp;have ae:=L3 b (room-1-fu a (room-1));have gd:=Dq b (room-1-fu a (room-1));(with_reducible repeat' first|((first|refine bG (fun h=>?_) fun h=>?_|refine bL (fun h=>?_) fun h=>?_|refine bK (fun h=>?_) fun h=>?_)<;>try simp at h)|refine aj ?_|simp);all_goals simp[bp,Hg,aT,aW,aQ]
   all_goals rw[L2];simp;omega
 all_goals rw[L2]
 all_goals simp_all[ls]
 all_goals first|omega|(split<;>simp at h⊢)
theorem Ia(t:bU):bS az 117 [enc t] (.bool t.fits):=by refine bq fH abg ah1 fun aP=>?_;unfold Ph;simp;refine cM.val (by simp) (Yj t.sz t (ff _) 5000 (by omega)) ?_;simp;simp[bp,V4,aT,aW,aQ];simp[bU.fits]
theorem al7(t:T):bS az 117 [t.e] (.bool t.fit):=by have:=Ia t.tm;rwa[pR,bU.fits_T]at this
theorem Ih(a b:T):bS az 225 [a.e,b.e] (T.pair a b).e:=by refine bq fH abF aiq fun aP=>?_;unfold PH;simp;(with_reducible repeat' first|((first|refine bG (fun h=>?_) fun h=>?_|refine bL (fun h=>?_) fun h=>?_|refine bK (fun h=>?_) fun h=>?_)<;>try simp at h)|refine aj ?_|simp);all_goals try simp[bp,Wk,aT,aW,aQ]
theorem BB(a b:T):bS az 114 [a.e,b.e] (T.pair a b).e:=by refine bq fH acy ajg fun aP=>?_;unfold Qy;simp;(with_reducible repeat' first|((first|refine bG (fun h=>?_) fun h=>?_|refine bL (fun h=>?_) fun h=>?_|refine bK (fun h=>?_) fun h=>?_)<;>try simp at h)|refine aj ?_|simp);all_goals try simp[bp,WE,aT,aW,aQ]
theorem tQ(t:T):bS az 200 [t.e] t.e:=by
 induction t with
 |pair a b dQ dR=>refine bq fH RG Vt fun aP=>?_;unfold I4;exact cB
 |_=>refine bq fH RG Vt fun aP=>?_;unfold I4;exact cB
theorem n7(a b:Int):bS az 232 [.int .i64 a,.int .i64 b] (.int .i64 (ez a b)):=by
 refine bq fH abE aip fun aP=>?_;unfold PG;simp;((with_reducible repeat' first|refine aj ?_|simp|((first|apply bG|apply bL|apply bK)<;>intro h<;>try simp at h))<;>(try exact cg));all_goals simp[bp,Wj,aT,aW,aQ]
 all_goals simp[ez]
 all_goals omega
theorem BD(a:T):∀b:T,bS az 170 [a.e,b.e] (.int .i64 (eo a b)):=by
 induction a with
 |pair bt a2 Gf Gg=>
  intro b;cases b with
  |pair bM bO=>
   refine bq fH JP Mf fun aP=>?_;unfold EZ;simp;((with_reducible repeat' first|refine aj ?_|refine aB (Gf _) ?_|refine aC (Gf _) ?_|refine aB (Gg _) ?_|refine aC (Gg _) ?_|refine aB (n7 _ _) ?_|refine aC (n7 _ _) ?_|simp|((first|apply bG|apply bL|apply bK)<;>intro h<;>try simp at h))<;>(try exact cg));all_goals simp[bp,Hh,aT,aW,aQ]
   all_goals simp_all[eo]
  |_=>
   refine bq fH JP Mf fun aP=>?_;unfold EZ;simp;(with_reducible repeat' first|refine aj ?_|refine aB (n7 _ _) ?_|refine aC (n7 _ _) ?_|simp);all_goals simp[bp,Hh,aT,aW,aQ]
   all_goals simp_all[eo]
 |_=>
  intro b;cases b<;>
  (refine bq fH JP Mf fun aP=>?_;unfold EZ
   simp
   (with_reducible repeat' first|((first|apply bG|apply bL|apply bK)<;>intro h<;>try simp at h)|refine aj ?_|refine aB (n7 _ _) ?_|refine aC (n7 _ _) ?_|simp)
   all_goals simp[bp,Hh,aT,aW,aQ]
   all_goals simp_all[eo,kI])
theorem tR(a b:T):bS az 108 [a.e,b.e] (.bool (decide (a=b))):=by
 refine bq fH abw aih fun aP=>?_;unfold Py;simp;(with_reducible repeat' first|refine aj ?_|refine aB (BD _ _) ?_|refine aC (BD _ _) ?_|simp);all_goals simp[bp,We,aT,aW,aQ]
 have:=q7 a b;by_cases h:eo a b=0<;>simp_all
open Classical in
def agt(l:List dV)(k:Nat)(st:bh):Prop:=∃i:Nat,i≤l.length∧k=l.length-i∧(∀j,j<i→AU l j)∧st=⟨[(0,.slice 5 .no (l.map dV.e)),(8,.slice 5 .no (l.map dV.e)),(9,.int .i64 l.length),(10,.int .i64 i)],[],[],0,[]⟩
open Classical in
theorem al8(l:List dV):bS az 100 [.slice 5 .no (l.map dV.e)] (.bool (decide (zd l))):=by
 refine bq fH abi ah3 fun aP=>?_;unfold Pk;simp;(with_reducible repeat' first|((first|apply bG|apply bL|apply bK)<;>intro h<;>try simp at h)|refine aj ?_|simp)
 ·simp[bp,Hb,aT,aW,aQ];intro cr;have:=cr.1;omega
 ·refine mX (agt l) l.length _ ⟨by simp,by simp[gB],by simp[nA],by simp⟩ ⟨0,by omega,by omega,by simp,rfl⟩ ?_;rintro k st ⟨i,hi,ad,lJ,rfl⟩ je cF;simp;refine bG (fun bm=>?_) (fun vY=>?_)
  ·simp at bm;obtain⟨b,ae⟩:∃b,l[i]? =some b:=⟨_,cb bm⟩;obtain⟨c,ar⟩:∃c,l[i-1]? =some c:=⟨_,cb (by omega)⟩;clear je cF;simp[ae,ar];((with_reducible repeat' first|refine aj ?_|refine aB (Ia _) ?_|refine aC (Ia _) ?_|simp[ar]|((first|apply bG|apply bL|apply bK)<;>intro h<;>try simp at h))<;>(try exact cg));all_goals first
    |(simp[bp,Hb,aT,aW,aQ];intro cr;have J:=cr.2 i bm b ae;have U:=J.2.1 c;have ao:=J.2.2;first|omega|(have:=U (by omega) ar;omega)|(rw[ao]at h;cases h)|simp_all)
    |(simp only[Ev];refine⟨l.length-(i+1),_,by omega,⟨by simp,by simp[gB],by simp[nA],by simp⟩,i+1,by omega,rfl,fun j ag=>?_,rfl⟩
      by_cases e:j=i
      ·subst e;intro bV gd;rw[ae]at gd;cases gd;refine⟨by omega,fun cf bD hh=>?_,by assumption⟩;rw[ar]at hh;cases hh;omega
      ·exact lJ j (by omega))
  ·simp at vY;simp[bp,Hb,aT,aW,aQ];exact⟨by omega,fun j ag=>lJ j (by omega)⟩
def dJ.below(c:dJ)(n:Int):Int:=if n≤0 then 0 else c.byte.tmod n
def dJ.belowC(c:dJ)(n:Int):dJ:=if n≤0 then c else c.next
theorem dJ.ok.below{c:dJ}(h:c.ok)(n:Int):(c.belowC n).ok:=by unfold dJ.belowC;split;exact h;exact h.next
theorem dJ.below_le(c:dJ)(n:Int)(au:0<n):0≤c.below n∧c.below n<n:=by have:=c.byte_le;unfold dJ.below;rw[if_neg (by omega)];exact⟨Int.tmod_nonneg _ this.1,Int.tmod_lt_of_pos _ au⟩
theorem xJ(c:dJ)(ar:c.ok)(n:Int):bC az 110 [.ptr (.obj 401) 0,.int .i64 n] (bJ c) fun r s'=>r= .int .i64 (c.below n)∧s'=bJ (c.belowC n):=by
 have af:=dZ c;have eF:=gl c;refine bC.mk mixed qn acm ai5 (by simp[-cm,-b6]) af.obj fun aP cF=>?_;unfold Qn;unfold bJ;simp[-cm,-b6];(with_reducible repeat' first|((first|apply bG|apply bL|apply bK)<;>intro h<;>try simp[-cm,-b6]at h)|refine aj ?_|simp[-cm,-b6])
 ·(refine cJ.at (bJ (c)) (.inl rfl) (dZ _) (gl _ _) (by unfold bJ;exact aG) (by unfold bJ;exact aG) ?_;simp[-cm,-b6,cP,MM,aT,aW,aQ,bJ]);simp[-cm,-b6,dJ.below,dJ.belowC,h]
 ·(refine cM.ob (Sf c ar) (dZ _) (by unfold bJ;exact aG) (by unfold bJ;exact aG) (by simp[-cm,-b6,inObs,bJ,Pv.look]) ?_;rintro r s' ⟨rfl,rfl⟩;refine⟨gl _ _,?_⟩;unfold bJ;simp[-cm,-b6,b0]);((with_reducible repeat' first|refine aj ?_|simp[-cm,-b6]|((first|apply bG|apply bL|apply bK)<;>intro h<;>try simp[-cm,-b6]at h))<;>(try exact cg));(refine cJ.at (bJ (c.next)) (.inl rfl) (dZ _) (gl _ _) (by unfold bJ;exact aG) (by unfold bJ;exact aG) ?_;simp[-cm,-b6,cP,MM,aT,aW,aQ,bJ]);have:¬n≤0:=by omega
  simp[-cm,-b6,dJ.below,dJ.belowC,this]
theorem X9(n:Int):bS az 91 [.int .i64 n] (T.var n).e:=by refine bq fH RN VA fun aP=>?_;unfold Jg;simp[-cm,-b6];simp[-cm,-b6,bp,WJ,aT,aW,aQ]
theorem X6(n:Int):bS az 192 [.int .i64 n] (T.num n).e:=by refine bq qn acw aje fun aP=>?_;unfold Qw;simp[-cm,-b6];simp[-cm,-b6,bp,WD,aT,aW,aQ]
theorem X8(s:List cQ):bS az 184 [.str s] (T.sym s).e:=by refine bq qn acB ajj fun aP=>?_;unfold QB;simp[-cm,-b6];simp[-cm,-b6,bp,WI,aT,aW,aQ]
def rs(k:Int):T:=if k<2 then .num k else if k<5 then .sym (([[97],[98],[99]]:List (List cQ)).getD (k-2).toNat [])else .nil
set_option maxRecDepth 4000 in
theorem adv(c:dJ)(ar:c.ok):bC az 115 [.ptr (.obj 401) 0] (bJ c) fun r s'=>r=(rs (c.below 7)).e∧s'=bJ c.next:=by
 have af:=dZ c;have ae:=c.below_le 7 (by omega);have iU:c.belowC 7=c.next:=by simp[-cm,-b6,dJ.belowC]
 refine bC.mk mixed qn acq ai9 (by simp[-cm,-b6]) af.obj fun aP cF=>?_;unfold Qr;unfold bJ;simp[-cm,-b6];(refine cM.ob (xJ c ar 7) (dZ _) (by unfold bJ;exact aG) (by unfold bJ;exact aG) (by simp[-cm,-b6,inObs,bJ,Pv.look]) ?_;rintro r s' ⟨rfl,rfl⟩;refine⟨gl _ _,?_⟩;unfold bJ;simp[-cm,-b6,b0]);rw[iU];generalize ad:c.below 7=k at ae⊢;obtain⟨k',rfl⟩:∃k':Nat,k=k':=⟨k.toNat,by omega⟩;rcases(by omega:k'=0∨k'=1∨k'=2∨k'=3∨k'=4∨k'=5∨k'=6)with rfl|rfl|rfl|rfl|rfl|rfl|rfl;all_goals simp[-cm,-b6]
 all_goals(with_reducible repeat' first|refine aj ?_|refine aB (X6 _) ?_|refine aC (X6 _) ?_|refine aB (X8 _) ?_|refine aC (X8 _) ?_|simp[-cm,-b6])
 all_goals(refine cJ.at (bJ (c.next)) (.inl rfl) (dZ _) (gl _ _) (by unfold bJ;exact aG) (by unfold bJ;exact aG) ?_;simp[-cm,-b6,cP,WB,aT,aW,aQ,bJ])
 all_goals simp[-cm,-b6,rs]
def dW(size:Nat)(vars:Int)(c:dJ):T×dJ:=
 if 2<size∧3≤c.below 8 then
  (.pair (dW (size/2) vars c.next).1 (dW (size/2) vars (dW (size/2) vars c.next).2).1,(dW (size/2) vars (dW (size/2) vars c.next).2).2)
 else if 0<vars∧(c.below 8).tmod 2=0 then(.var (c.next.below vars),c.next.belowC vars)
 else(rs (c.next.below 7),c.next.next)
termination_by size
theorem B3(size:Nat)(vars:Int):∀c:dJ,c.ok→(dW size vars c).2.ok:=by
 induction size using qw with
 |ind size bP=>
  intro c ar;rw[dW];split
  ·rename_i h;exact bP _ (by omega) _ (bP _ (by omega) _ ar.next)
  ·split
   ·exact ar.next.below _
   ·exact ar.next.next
set_option maxRecDepth 4000 in
theorem J6(vars:Int)(aI:vars≤1000000)(size:Nat)(aY:size≤1000000):∀(c:dJ),c.ok→bC az 46 [.ptr (.obj 401) 0,.int .i64 size,.int .i64 vars] (bJ c) fun r s'=>r=(dW size vars c).1.e∧s'=bJ (dW size vars c).2:=by
 induction size using qw with
 |ind size bP=>
  intro c ar;have af:=dZ c;have ae:=c.below_le 8 (by omega);have iU:c.belowC 8=c.next:=by simp[-cm,-b6,dJ.belowC]
  obtain⟨z,TQ⟩:∃z,z=size/2:=⟨_,rfl⟩;have hdiv:mN.wrap ((size:Int)/2)=(z:Int):=by rw[ml _ (by omega)];omega
  have lL:∀h:2<size∧3≤c.below 8,dW size vars c=(.pair (dW z vars c.next).1 (dW z vars (dW z vars c.next).2).1,(dW z vars (dW z vars c.next).2).2):=fun h=>by rw[dW,if_pos h,TQ]
  have aeB:∀(h:¬(2<size∧3≤c.below 8)) (cr:0<vars∧(c.below 8).tmod 2=0),dW size vars c=(.var (c.next.below vars),c.next.belowC vars):=fun h cr=>by rw[dW,if_neg h,if_pos cr]
  have aey:∀(h:¬(2<size∧3≤c.below 8)) (cr:¬(0<vars∧(c.below 8).tmod 2=0)),dW size vars c=(rs (c.next.below 7),c.next.next):=fun h cr=>by rw[dW,if_neg h,if_neg cr]
  have C0:2<size→∀c:dJ,c.ok→bC az 46 [.ptr (.obj 401) 0,.int .i64 z,.int .i64 vars] (bJ c) fun r s'=>r=(dW z vars c).1.e∧s'=bJ (dW z vars c).2:=fun h=>bP z (by omega) (by omega);clear bP;refine bC.mk mixed qn acs ajb (by simp[-cm,-b6]) af.obj fun aP cF=>?_;unfold Qt;unfold bJ;simp[-cm,-b6];(refine cM.ob (xJ c ar 8) (dZ _) (by unfold bJ;exact aG) (by unfold bJ;exact aG) (by simp[-cm,-b6,inObs,bJ,Pv.look]) ?_;rintro r s' ⟨rfl,rfl⟩;refine⟨gl _ _,?_⟩;unfold bJ;simp[-cm,-b6,b0]);rw[iU];(with_reducible repeat' first|((first|apply bG|apply bL|apply bK)<;>intro h<;>try simp[-cm,-b6]at h)|refine aj ?_|simp[-cm,-b6,hdiv])
  ·rename_i U;(refine cM.ob (C0 (by omega) c.next ar.next) (dZ _) (by unfold bJ;exact aG) (by unfold bJ;exact aG) (by simp[-cm,-b6,inObs,bJ,Pv.look]) ?_;rintro r s' ⟨rfl,rfl⟩;refine⟨gl _ _,?_⟩;unfold bJ;simp[-cm,-b6,b0]);((with_reducible repeat' first|refine aj ?_|simp[-cm,-b6,hdiv]|((first|apply bG|apply bL|apply bK)<;>intro h<;>try simp[-cm,-b6]at h))<;>(try exact cg));(refine fJ.ob (C0 (by omega) (dW z vars c.next).2 (B3 _ _ _ ar.next)) (dZ _) (dZ _) (gl _ _) (by unfold bJ;exact aG) (by unfold bJ;exact aG) (by simp[-cm,-b6,inObs,bJ,Pv.look]) ?_;unfold bJ;simp[-cm,-b6,b0]);(with_reducible repeat' first|refine aj ?_|refine aB (BB _ _) ?_|refine aC (BB _ _) ?_|simp[-cm,-b6]);rw[lL (by omega)];(refine cJ.at (bJ ((dW z vars (dW z vars c.next).2).2)) (.inl rfl) (dZ _) (gl _ _) (by unfold bJ;exact aG) (by unfold bJ;exact aG) ?_;simp[-cm,-b6,cP,Hk,aT,aW,aQ,bJ])
  all_goals first
   |(rw[aeB (by omega) ⟨by omega,by assumption⟩];(refine cM.ob (xJ c.next ar.next vars) (dZ _) (by unfold bJ;exact aG) (by unfold bJ;exact aG) (by simp[-cm,-b6,inObs,bJ,Pv.look]) ?_;rintro r s' ⟨rfl,rfl⟩;refine⟨gl _ _,?_⟩;unfold bJ;simp[-cm,-b6,b0]);(with_reducible repeat' first|refine aj ?_|refine aB (X9 _) ?_|refine aC (X9 _) ?_|simp[-cm,-b6]);(refine cJ.at (bJ (c.next.belowC vars)) (.inl rfl) (dZ _) (gl _ _) (by unfold bJ;exact aG) (by unfold bJ;exact aG) ?_;simp[-cm,-b6,cP,Hk,aT,aW,aQ,bJ]);done)
   |(rw[aey (by omega) (by rintro⟨J,U⟩;first|omega|contradiction|(simp_all;done))];(refine cM.ob (adv c.next ar.next) (dZ _) (by unfold bJ;exact aG) (by unfold bJ;exact aG) (by simp[-cm,-b6,inObs,bJ,Pv.look]) ?_;rintro r s' ⟨rfl,rfl⟩;refine⟨gl _ _,?_⟩;unfold bJ;simp[-cm,-b6,b0]);(with_reducible repeat' first|refine aj ?_|simp[-cm,-b6]);(refine cJ.at (bJ (c.next.next)) (.inl rfl) (dZ _) (gl _ _) (by unfold bJ;exact aG) (by unfold bJ;exact aG) ?_;simp[-cm,-b6,cP,Hk,aT,aW,aQ,bJ]);done)
def Bl:List Int→Int→Int
 |[],h=>h
 |x::r,h=>Bl r (xp .i64 (h*131+x+7) 1073741823)
def wI(d:List Int):dJ:=⟨d,0,Bl (d.take 4000) (90411+d.length)⟩
def agp(d:List Int)(k:Nat)(st:bh):Prop:=∃(i:Nat) (h:Int),i≤d.length∧i≤4000∧k=d.length-i∧0≤h∧h≤2000000000∧Bl ((d.take 4000).drop i) h=Bl (d.take 4000) (90411+d.length)∧st=⟨[(0,.slice 1 .no (hO d)),(3,.int .i64 h),(4,.int .i64 i)],[],[],0,[]⟩
set_option maxRecDepth 4000 in
theorem adt(d:List Int)(aE:sM d)(aq:d.length≤10000000):bC az 113 [.slice 1 .no (hO d)] ⟨[],[]⟩ fun r s'=>r= .ptr (.obj 401) 0∧s'=bJ (wI d):=by
 have af:dL ⟨[],[]⟩:=(dL.of ⟨by intro m;simp[-cm,-b6,Pv.look],by intro m;simp[-cm,-b6,Pv.look]⟩ (by simp[-cm,-b6,aN,aH,inObs,Pv.look]) (by simp[-cm,-b6,aN,aH,inObs,Pv.look]));refine bC.mk mixed qn aco ai7 (by simp[-cm,-b6]) af.obj fun aP cF=>?_;unfold Qp;simp[-cm,-b6];(with_reducible repeat' first|refine aj ?_|simp[-cm,-b6]);refine mX (agp d) d.length _ ⟨by simp[-cm,-b6],by simp[-cm,-b6,gB],by simp[-cm,-b6,nA],by simp[-cm,-b6]⟩ ⟨0,90411+d.length,by omega,by omega,by omega,by omega,by omega,by simp[-cm,-b6],rfl⟩ ?_;rintro k st ⟨i,g,hi,aoL,ad,bD,J,kB,rfl⟩ je cF;clear je cF;have s6:¬(i<d.length∧i<4000)→g=Bl (d.take 4000) (90411+d.length):=by intro au;rw[List.drop_of_length_le (by simp[-cm,-b6];omega)]at kB;exact kB
 have iT:¬(i<d.length∧i<4000)→wI d=⟨d,0,g⟩:=fun au=>by simp[-cm,-b6,wI,s6 au]
 simp[-cm,-b6];(with_reducible repeat' first|((first|apply bG|apply bL|apply bK)<;>intro h<;>try simp[-cm,-b6]at h)|refine aj ?_|simp[-cm,-b6])
 ·have bm:i<d.length:=by omega
  obtain⟨x,ab⟩:∃x,d[i]? =some x:=⟨_,cb bm⟩;have jT:∀h,(hO d)[i]'h= .int .u8 x:=fun h=>by have:=IU ab;rw[cb h]at this;simpa using this
  have po:=aE x (fR ab);have hw:mN.wrap x=x:=ml _ (by omega);have pX:=IK (g*131+x+7) 1073741823 (by omega) (by omega);simp[-cm,-b6,IU ab,hw];(with_reducible repeat' first|refine aj ?_|simp[-cm,-b6]);refine bN.next (d.length-(i+1)) (by omega) ⟨i+1,_,by omega,by omega,rfl,pX.1,by omega,?_,rfl⟩ ⟨by simp[-cm,-b6],by simp[-cm,-b6,gB],by simp[-cm,-b6,nA],by simp[-cm,-b6]⟩;rw[←kB,k9 (l:=d.take 4000) (i:=i) (by simp[-cm,-b6];omega)];have:(d.take 4000)[i]'(by simp[-cm,-b6];omega)=x:=by have:=ab;rw[cb bm]at this;simpa using this
  rw[this,Bl]
 all_goals rw[iT (by omega)]
 all_goals refine cJ.new (bJ ⟨d,0,g⟩) (.inl rfl) (dZ _) (by simp[-cm,-b6,kY]) (by unfold bJ;exact aG) (by unfold bJ;exact aG) ?_
 all_goals simp[-cm,-b6,cP,Wz,aT,aW,aQ,bJ,inObs,Pv.look]
def sp:Nat→dJ→dJ
 |0,c=>c
 |n+1,c=>(sp n c).next
theorem Ns{c:dJ}(h:c.ok):∀n,(sp n c).ok
 |0=>h
 |n+1=>(Ns h n).next
theorem Vg{d:List Int}(aE:sM d)(aq:d.length≤10000000):(wI d).ok:=⟨aE,aq,by simp[-cm,-b6,wI]⟩
def jF(d:List Int)(n:Nat):dJ:=sp n (wI d)
theorem Q3{d:List Int}(aE:sM d)(aq:d.length≤10000000)(n:Nat):(jF d n).ok:=Ns (Vg aE aq) n
theorem lr(S:aJ→Prop)(c:dJ):aN S c.e:=by simp[-cm,-b6,dJ.e,aN,aH]
def agk(c:dJ)(n:Nat)(k:Nat)(st:bh):Prop:=∃i:Nat,i≤n∧k=n-i∧st=⟨[(1,.int .i64 n),(5,.ptr (.obj 401) 0),(6,.int .i64 i)],[(.obj 401,(sp i c).e)],[],0,[.obj 401]⟩
set_option maxRecDepth 4000 in
theorem Sg(d:List Int)(aE:sM d)(aq:d.length≤10000000)(n:Nat)(au:n≤1000000):bC az 45 [.slice 1 .no (hO d),.int .i64 n] ⟨[],[]⟩ fun r s'=>r= .ptr (.obj 401) 0∧s'=bJ (jF d n):=by
 unfold jF;have af:dL ⟨[],[]⟩:=(dL.of ⟨by intro m;simp[-cm,-b6,Pv.look],by intro m;simp[-cm,-b6,Pv.look]⟩ (by simp[-cm,-b6,aN,aH,inObs,Pv.look]) (by simp[-cm,-b6,aN,aH,inObs,Pv.look]));refine bC.mk mixed qn acT ajB (by simp[-cm,-b6]) af.obj fun aP cF=>?_;unfold QT;simp[-cm,-b6];refine cM.new (adt d aE aq) af aG aG (by simp[-cm,-b6]) ?_;rintro r s' ⟨rfl,rfl⟩;refine⟨fun m _=>.inr (by simp[-cm,-b6]),?_⟩;unfold bJ;simp[-cm,-b6,b0];refine mX (agk (wI d) n) n _ ⟨by simp[-cm,-b6,fresh,aN,aH,cn,inObs,Pv.look,lr,sp],eM (by simp[-cm,-b6,fresh,aN,aH,cn,inObs,Pv.look,lr,sp]),eN (by simp[-cm,-b6,fresh,aN,aH,ej,inObs,Pv.look,lr,sp]),by simp[-cm,-b6]⟩ ⟨0,by omega,rfl,rfl⟩ ?_;rintro k st ⟨i,hi,ad,rfl⟩ je cF;clear je cF;simp[-cm,-b6];(with_reducible repeat' first|((first|apply bG|apply bL|apply bK)<;>intro h<;>try simp[-cm,-b6]at h)|refine aj ?_|simp[-cm,-b6])
 ·(refine cM.ob (Sf _ (Ns (Vg aE aq) i)) (dZ _) (by unfold bJ;exact aG) (by unfold bJ;exact aG) (by simp[-cm,-b6,inObs,bJ,Pv.look]) ?_;rintro r s' ⟨rfl,rfl⟩;refine⟨gl _ _,?_⟩;unfold bJ;simp[-cm,-b6,b0]);(with_reducible repeat' first|((first|apply bG|apply bL|apply bK)<;>intro h<;>try simp[-cm,-b6]at h)|refine aj ?_|simp[-cm,-b6]);refine bN.next (n-(i+1)) (by omega) ⟨i+1,by omega,rfl,rfl⟩ ⟨by simp[-cm,-b6,fresh,aN,aH,cn,inObs,Pv.look,lr,sp],eM (by simp[-cm,-b6,fresh,aN,aH,cn,inObs,Pv.look,lr,sp]),eN (by simp[-cm,-b6,fresh,aN,aH,ej,inObs,Pv.look,lr,sp]),by simp[-cm,-b6]⟩
 ·obtain rfl:i=n:=by omega
  refine cJ.new (bJ (sp i (wI d))) (.inl rfl) (dZ _) (by simp[-cm,-b6,kY]) (by unfold bJ;exact aG) (by unfold bJ;exact aG) ?_;simp[-cm,-b6,cP,WM,aT,aW,aQ,bJ,inObs,Pv.look]
theorem H9(d:List Int)(aE:sM d)(aq:d.length≤10000000)(n:Nat)(au:n≤1000000)(size:Nat)(aY:size≤1000000)(vars:Int)(aI:vars≤1000000):bS az 11 [.slice 1 .no (hO d),.int .i64 n,.int .i64 size,.int .i64 vars] (dW size vars (jF d n)).1.e:=by refine bq qn ach ai1 fun aP=>?_;unfold Qj;simp[-cm,-b6];refine cM.new (Sg d aE aq n au) ((dL.of ⟨by intro m;simp[-cm,-b6,Pv.look],by intro m;simp[-cm,-b6,Pv.look]⟩ (by simp[-cm,-b6,aN,aH,inObs,Pv.look]) (by simp[-cm,-b6,aN,aH,inObs,Pv.look]))) aG aG (by simp[-cm,-b6]) ?_;rintro r s' ⟨rfl,rfl⟩;refine⟨fun m _=>.inr (by simp[-cm,-b6]),?_⟩;unfold bJ;simp[-cm,-b6,b0];(refine cM.ob (J6 vars aI size aY _ (Q3 aE aq n)) (dZ _) (by unfold bJ;exact aG) (by unfold bJ;exact aG) (by simp[-cm,-b6,inObs,bJ,Pv.look]) ?_;rintro r s' ⟨rfl,rfl⟩;refine⟨gl _ _,?_⟩;unfold bJ;simp[-cm,-b6,b0]);simp[-cm,-b6,bp,Wx,aT,aW,aQ]
/-What is drawn. -/
theorem Zt(k:Int)(bD:0≤k)(J:k<7):(rs k).ok=true∧(∀v,(rs k).occ v=false)∧(rs k).size=1:=by obtain⟨n,rfl⟩:∃n:Nat,k=n:=⟨k.toNat,by omega⟩;rcases(by omega:n=0∨n=1∨n=2∨n=3∨n=4∨n=5∨n=6)with rfl|rfl|rfl|rfl|rfl|rfl|rfl<;>refine⟨?_,fun v=>?_,?_⟩<;>first|rfl|decide
theorem ZU(vars:Int)(aI:vars≤100001)(n:Nat):∀c:dJ,(dW n vars c).1.ok=true∧(∀v,(dW n vars c).1.occ v=true→0≤v∧v<vars)∧(dW n vars c).1.size≤2*n-1+(if n=0 then 1 else 0):=by
 induction n using qw with
 |ind n bP=>
  intro c;have dX:=c.next.below_le 7 (by omega);rw[dW];split
  ·rename_i h;obtain⟨bt,a2,a3⟩:=bP (n/2) (by omega) c.next;obtain⟨bM,bO,gg⟩:=bP (n/2) (by omega) (dW (n/2) vars c.next).2;refine⟨by simp[T.ok,bt,bM],fun v aI=>?_,?_⟩
   ·simp only[T.occ,lY]at aI;rcases aI with aI|aI
    ·exact a2 v aI
    ·exact bO v aI
   ·simp only[T.size];split at a3<;>split at gg<;>split<;>omega
  ·split
   ·rename_i h;have:=c.next.below_le vars h.1;refine⟨by simp[T.ok];omega,fun v aI=>?_,by simp only[T.size];split<;>omega⟩;simp[T.occ]at aI;omega
   ·obtain⟨bt,a2,a3⟩:=Zt _ dX.1 dX.2;refine⟨bt,fun v aI=>?_,?_⟩
    ·simp only[a2 v]at aI;cases aI
    ·simp only[a3];split<;>omega
def mh(p:Nat→Bool)(i j:Nat):Nat:=if i<j then(if p ((i+j)/2)then mh p i ((i+j)/2)else mh p ((i+j)/2+1) j)else i
termination_by j-i
def ags(s:cI)(n g:Nat)(dj:List ah)(p:Nat→Bool)(k:Nat)(st:bh):Prop:=∃i j:Nat,i≤j∧j≤n∧k=j-i∧mh p i j=mh p 0 n∧st=⟨[(1,.func g dj),(5,.int .i64 i),(6,.int .i64 j)],s.b,s.e,0,cZ s⟩
theorem adj(s:cI)(af:dL s)(n g:Nat)(au:n≤1000000)(dj:List ah)(ar:aN (inObs s) dj)(c8:di dj=dj)(p:Nat→Bool)(aO:∀i:Nat,i<n→bC az g (.int .i64 i::dj) s fun r s'=>r= .bool (p i)∧s'=s):
  bC az 211 [.int .i64 n,.func g dj] s fun r s'=>r= .int .i64 (mh p 0 n)∧s'=s:=by
 refine bC.mk mixed fH abT aiE (by simp) af.obj fun aP cF=>?_;unfold PW;simp;refine mX (ags s n g dj p) n _ (iM.ob af (by simp[ar]) aG aG) ⟨0,n,by omega,by omega,rfl,rfl,rfl⟩ ?_;rintro k st ⟨i,j,l8,ag,ad,KY,rfl⟩ je cF;clear je cF;simp;refine bG (fun bm=>?_) (fun vY=>?_)
 ·simp at bm;have hw:ht.wrap ((i:Int)+j)=i+j:=by simp[sB,nF,rl];omega
  obtain⟨m,hm⟩:∃m,m=(i+j)/2:=⟨_,rfl⟩;have aE:Int.fdiv ((i:Int)+j) 2=(m:Int):=by rw[Int.fdiv_eq_ediv_of_nonneg _ (by omega)];omega
  have kg:mN.wrap (m:Int)=m:=by rw[ml];omega
  have Km:ht.bits=64:=rfl;simp[hw,c8,Km,aE,kg];refine⟨by unfold oK;omega,?_⟩;refine cM.ob (aO m (by omega)) af aG aG (by simp[ar]) ?_;rintro r s' ⟨rfl,rfl⟩;refine⟨Same.refl _,?_⟩;simp[gZ];(with_reducible repeat' first|((first|apply bG|apply bL|apply bK)<;>intro h<;>try simp at h)|refine aj ?_|simp)
  ·simp only[Ev];refine⟨j-(m+1),_,by omega,iM.ob af (by simp[ar]) aG aG,m+1,j,by omega,by omega,rfl,?_,rfl⟩;rw[←KY];conv=>rhs;unfold mh
   simp[bm,←hm,h]
  ·simp only[Ev];refine⟨m-i,_,by omega,iM.ob af (by simp[ar]) aG aG,i,m,by omega,by omega,rfl,?_,rfl⟩;rw[←KY];conv=>rhs;unfold mh
   simp[bm,←hm,h]
 ·simp at vY;have:mh p 0 n=i:=by rw[←KY];unfold mh;rw[if_neg (by omega)]
  rw[this];simp;refine cJ.at s (.inl rfl) af (Same.refl s) aG aG ?_;simp[cP,Wp,aT,aW,aQ]
def mZ(l:List ak)(v:Int):Int:=
 let i:=mh (fun i=>match l[i]? with|some b=>decide (v≤b.v)|none=>false) 0 l.length
 match l[i]? with|some b=>if b.v=v then i else-1|none=> -1
theorem adq(l:List ak)(v:Int)(i:Nat)(b:ak)(ae:l[i]? =some b):bC az 212 [.int .i64 i,.ptr (.obj 101) 0,.ptr (.obj 102) 0] ⟨[(.obj 101,[.slice 5 .no (l.map ak.e)]),(.obj 102,[.int .i64 v])],[]⟩ fun r s'=>r= .bool (decide (v≤b.v))∧s'=⟨[(.obj 101,[.slice 5 .no (l.map ak.e)]),(.obj 102,[.int .i64 v])],[]⟩:=by have af:dL ⟨[(.obj 101,[.slice 5 .no (l.map ak.e)]),(.obj 102,[.int .i64 v])],[]⟩:=(dL.of ⟨by intro m;simp[Pv.look],by intro m;simp[Pv.look]⟩ (by simp[aN,aH,inObs,Pv.look]) (by simp[aN,aH,inObs,Pv.look]));have bm:i<l.length:=(fU.1 ae).1;refine bC.mk mixed fH abz aik (by simp) af.obj fun aP cF=>?_;unfold PB;simp[ae];(with_reducible repeat' first|refine aj ?_|simp);refine cJ.at _ (.inl rfl) af (Same.refl _) aG aG ?_;simp[cP,Wh,aT,aW,aQ]
theorem tS(l:List ak)(v:Int)(aq:l.length≤1000000):bS az 134 [.slice 5 .no (l.map ak.e),.int .i64 v] (.int .i64 (mZ l v)):=by
 refine bq fH aby aij fun aP=>?_;unfold PA;simp;have af:dL ⟨[(.obj 101,[.slice 5 .no (l.map ak.e)]),(.obj 102,[.int .i64 v])],[]⟩:=(dL.of ⟨by intro m;simp[Pv.look],by intro m;simp[Pv.look]⟩ (by simp[aN,aH,inObs,Pv.look]) (by simp[aN,aH,inObs,Pv.look]));refine cM.ob (adj ⟨[(.obj 101,[.slice 5 .no (l.map ak.e)]),(.obj 102,[.int .i64 v])],[]⟩ af l.length 212 aq [.ptr (.obj 101) 0,.ptr (.obj 102) 0] (by simp[inObs]) (by simp) (fun i=>match l[i]? with|some b=>decide (v≤b.v)|none=>false) fun i hi=>?_) af aG aG (by simp[inObs]) ?_
 ·obtain⟨b,ae⟩:∃b,l[i]? =some b:=⟨_,cb hi⟩;simp only[ae];exact adq l v i b ae
 rintro r s' ⟨rfl,rfl⟩;refine⟨Same.refl _,?_⟩;unfold mZ;generalize mh _ 0 l.length=i;cases ae:l[i]? with
 |none=>
  have bm:¬i<l.length:=by simpa using ae
  simp[b0,bm];exact cB
 |some b=>
  have bm:i<l.length:=(fU.1 ae).1;simp[b0,ae,bm];((with_reducible repeat' first|refine aj ?_|simp[ae]|((first|apply bG|apply bL|apply bK)<;>intro h<;>try simp at h))<;>(try exact cg));all_goals simp[bp,Wg,aT,aW,aQ]
  all_goals simp_all
def sg(l:List ak)(v:Int):Option T:=if mZ l v<0 then none else(l[(mZ l v).toNat]?).map (·.t)
theorem RX(l:List ak)(v:Int):mZ l v<l.length∧ -1≤mZ l v:=by
 unfold mZ;simp only;split
 ·rename_i b ae;have:=(fU.1 ae).1;split<;>omega
 ·omega
theorem Sh(l:List ak)(v:Int)(aq:l.length≤1000000)(o:Option T)(av:o=sg l v):bC az 182 [.int .i64 v,.ptr (.obj 201) 0] ⟨[(.obj 201,[.slice 5 .no (l.map ak.e)])],[]⟩ fun r s'=>r= .tuple [(o.getD .nil).e,.bool o.isSome]∧s'=⟨[(.obj 201,[.slice 5 .no (l.map ak.e)])],[]⟩:=by
 have af:dL ⟨[(.obj 201,[.slice 5 .no (l.map ak.e)])],[]⟩:=(dL.of ⟨by intro m;simp[Pv.look],by intro m;simp[Pv.look]⟩ (by simp[aN,aH,inObs,Pv.look]) (by simp[aN,aH,inObs,Pv.look]));have bm:=(RX l v).1;unfold sg at av;refine bC.mk mixed fH abH ais (by simp) af.obj fun aP cF=>?_;unfold PJ;simp;(with_reducible repeat' first|((first|apply bG|apply bL|apply bK)<;>intro h<;>try simp at h)|refine aj ?_|refine aB (tS l v aq) ?_|refine aC (tS l v aq) ?_|simp)
 ·obtain⟨b,ae⟩:∃b,l[(mZ l v).toNat]? =some b:=⟨_,cb (by omega)⟩;have hX:o=some b.t:=by rw[av,if_neg (by omega),ae];rfl
  simp[ae];(with_reducible repeat' first|((first|apply bG|apply bL|apply bK)<;>intro h<;>try simp at h)|refine aj ?_|simp[ae]);refine cJ.at _ (.inl rfl) af (Same.refl _) aG aG ?_;simp[cP,ME,aT,aW,aQ];simp[hX]
 ·have hX:o=none:=by rw[av,if_pos h]
  refine cJ.at _ (.inl rfl) af (Same.refl _) aG aG ?_;simp[cP,ME,aT,aW,aQ];simp[hX]
theorem adK(s:cI)(af:dL s)(g:Nat)(dj:List ah)(ar:aN (inObs s) dj)(c8:di dj=dj)(f:Int→Int)(Cz:∀v,-1≤f v)(t:T)(aO:∀v,t.occ v=true→bC az g (.int .i64 v::dj) s fun r s'=>r= .int .i64 (f v)∧s'=s):
  bC az 239 [t.e,.func g dj] s fun r s'=>r= .int .i64 (lu f t)∧s'=s:=by
 have au:∀m,Pv.look (.loc m) s.b=none:=af.obj.1;have hu:∀m cs,cu (.loc m) cs s.b=s.b++[(.loc m,cs)]:=fun m cs=>j4 (au m);have av:∀m,aJ.loc m∉cZ s:=j0 af.obj;induction t with
 |pair a b dQ dR=>
  have aoX:=HS f Cz a;have ao0:=HS f Cz b;refine bC.mk mixed fH xD yz (by simp) af.obj fun aP cF=>?_;unfold vF;simp[hu,av,cH,au,c8];(with_reducible repeat' first|refine aj ?_|simp[hu,av,cH,au]);refine cM.ob (dQ fun v aI=>aO v (by simp[T.occ,aI])) af aG aG (by simp[ar]) ?_;rintro r s' ⟨rfl,rfl⟩;refine⟨Same.refl _,?_⟩;simp[gZ,iG,b0,au];(with_reducible repeat' first|((first|apply bG|apply bL|apply bK)<;>intro h<;>try simp at h)|refine aj ?_|simp[hu,av,cH,au])
  ·refine cJ.at s' (.inl rfl) af (Same.refl _) aG aG ?_;simp[cP,vc,aT,aW,aQ];simp[lu];omega
  ·rw[c8];refine cM.ob (dR fun v aI=>aO v (by simp[T.occ,aI])) af aG aG (by simp[ar]) ?_;rintro r s2 ⟨rfl,rfl⟩;refine⟨Same.refl _,?_⟩;simp[gZ,iG,b0,au];(with_reducible repeat' first|((first|apply bG|apply bL|apply bK)<;>intro h<;>try simp at h)|refine aj ?_|simp[hu,av,cH,au]);refine cJ.at s2 (.inl rfl) af (Same.refl _) aG aG ?_;simp[cP,vc,aT,aW,aQ];simp[lu];omega
 |var n=>refine bC.mk mixed fH xD yz (by simp) af.obj fun aP cF=>?_;unfold vF;simp[hu,av,cH,au,c8];(with_reducible repeat' first|refine aj ?_|simp[hu,av,cH,au]);refine cM.ob (aO n (by simp[T.occ])) af aG aG (by simp[ar]) ?_;rintro r s' ⟨rfl,rfl⟩;refine⟨Same.refl _,?_⟩;simp[gZ,iG,b0,au];refine cJ.at s' (.inl rfl) af (Same.refl _) aG aG ?_;simp[cP,vc,aT,aW,aQ];simp[lu]
 |_=>refine bC.mk mixed fH xD yz (by simp) af.obj fun aP cF=>?_;unfold vF;simp[hu,av,cH,au,c8];(with_reducible repeat' first|refine aj ?_|simp[hu,av,cH,au]);refine cJ.at s (.inl rfl) af (Same.refl _) aG aG ?_;simp[cP,vc,aT,aW,aQ];simp[lu]
theorem adx(s:cI)(af:dL s)(g:Nat)(dj:List ah)(ar:aN (inObs s) dj)(c8:di dj=dj)(f:Int→Option T)(t:T)(aO:∀v,t.occ v=true→bC az g (.int .i64 v::dj) s fun r s'=>r= .tuple [((f v).getD .nil).e,.bool (f v).isSome]∧s'=s):
  bC az 153 [t.e,.func g dj] s fun r s'=>r=(t.sub f).e∧s'=s:=by
 have au:∀m,Pv.look (.loc m) s.b=none:=af.obj.1;have cD:∀m,Pv.look (.loc m) s.e=none:=af.obj.2;have hu:∀m cs,cu (.loc m) cs s.b=s.b++[(.loc m,cs)]:=fun m cs=>j4 (au m);have av:∀m,aJ.loc m∉cZ s:=j0 af.obj;have lR:∀m p r,cu (.loc m) p (s.b++r)=s.b++cu (.loc m) p r:=fun m p r=>By (au m);induction t with
 |pair a b dQ dR=>refine bC.mk mixed fH zy AW (by simp) af.obj fun aP cF=>?_;unfold xx;simp[hu,av,cH,au,cD,c8,lR];(with_reducible repeat' first|refine aj ?_|simp[hu,av,cH,au,cD,lR]);refine fJ.ob (dQ fun v aI=>aO v (by simp[T.occ,aI])) af af (Same.refl _) aG aG (by simp[ar]) ?_;simp[gZ,iG,b0,au,c8];refine fJ.ob (dR fun v aI=>aO v (by simp[T.occ,aI])) af af (Same.refl _) aG aG (by simp[ar]) ?_;simp[gZ,iG,b0,au,c8];(with_reducible repeat' first|refine aj ?_|refine aB (Ih _ _) ?_|refine aC (Ih _ _) ?_|simp);refine cJ.at s (.inl rfl) af (Same.refl _) aG aG ?_;simp[cP,yG,aT,aW,aQ,cH,au];simp[T.sub]
 |var n=>
  refine bC.mk mixed fH zy AW (by simp) af.obj fun aP cF=>?_;unfold xx;simp[hu,av,cH,au,c8,lR];(with_reducible repeat' first|refine aj ?_|simp[hu,av,cH,au,lR]);refine cM.ob (aO n (by simp[T.occ])) af aG aG (by simp[ar]) ?_;rintro r s' ⟨rfl,rfl⟩;refine⟨Same.refl _,?_⟩;simp[gZ,iG,b0,au,hu,av,cH];(with_reducible repeat' first|((first|apply bG|apply bL|apply bK)<;>intro h<;>try simp at h)|refine aj ?_|refine aB (tQ _) ?_|refine aC (tQ _) ?_|simp[hu,av,cH,au,lR]);all_goals refine cJ.at s' (.inl rfl) af (Same.refl _) aG aG ?_
  all_goals simp[cP,yG,aT,aW,aQ,cH,au]
  all_goals cases qP:f n<;>simp_all[T.sub]
 |_=>refine bC.mk mixed fH zy AW (by simp) af.obj fun aP cF=>?_;unfold xx;simp[hu,av,cH,au,c8,lR];(with_reducible repeat' first|((first|apply bG|apply bL|apply bK)<;>intro h<;>try simp at h)|refine aj ?_|simp[hu,av,cH,au,lR]);refine cJ.at s (.inl rfl) af (Same.refl _) aG aG ?_;simp[cP,yG,aT,aW,aQ,cH,au];simp[T.sub]
def oe(l:List ak):cI:=⟨[(.obj 201,[.slice 5 .no (l.map ak.e)])],[]⟩
def rq(l:List ak):cI:=⟨[(.obj 201,[.slice 5 .no (l.map ak.e)]),(.obj 202,[.func 182 [.ptr (.obj 201) 0]])],[]⟩
theorem BM(l:List ak):dL (oe l):=by unfold oe;exact(dL.of ⟨by intro m;simp[Pv.look],by intro m;simp[Pv.look]⟩ (by simp[aN,aH,inObs,Pv.look]) (by simp[aN,aH,inObs,Pv.look]))
theorem Iu(l:List ak):dL (rq l):=by unfold rq;exact(dL.of ⟨by intro m;simp[Pv.look],by intro m;simp[Pv.look]⟩ (by simp[aN,aH,inObs,Pv.look]) (by simp[aN,aH,inObs,Pv.look]))
def uv(l:List ak)(v:Int):Int:=match sg l v with|some x=>fu x.tm 5000|none=>1
theorem ac9(l:List ak)(v:Int): -1≤uv l v:=by
 unfold uv;split
 ·rename_i x _;rcases Dq x.tm 5000 with h|h<;>omega
 ·omega
theorem Yk(t:T):bS az 194 [t.e,.int .i64 5000] (.int .i64 (fu t.tm 5000)):=by have:=Yj t.tm.sz t.tm (ff _) 5000 (by omega);rwa[pR]at this
theorem adH(l:List ak)(v:Int)(aq:l.length≤1000000):bC az 240 [.int .i64 v,.ptr (.obj 202) 0] (rq l) fun r s'=>r= .int .i64 (uv l v)∧s'=rq l:=by
 have af:=Iu l;unfold rq at af⊢;refine bC.mk mixed fH abJ aiu (by simp) af.obj fun aP cF=>?_;unfold PL;simp;refine cM.ob (Sh l v aq _ rfl) (BM l) aG aG (by simp[inObs]) ?_;rintro r s' ⟨rfl,rfl⟩;refine⟨Same.refl _,?_⟩;simp[b0];(with_reducible repeat' first|((first|apply bG|apply bL|apply bK)<;>intro h<;>try simp at h)|refine aj ?_|refine aB (Yk _) ?_|refine aC (Yk _) ?_|simp);all_goals refine cJ.at _ (.inl rfl) af (Same.refl _) aG aG ?_
 all_goals simp[cP,Wm,aT,aW,aQ]
 all_goals unfold uv
 all_goals cases bB:sg l v<;>simp_all
def DH(l:List ak)(t:T):T:=t.sub (sg l)
def tG(l:List ak)(t:T):Bool:=decide (lu (uv l) t≤5000)
theorem adG(l:List ak)(t:T)(aq:l.length≤1000000):bC az 181 [t.e,.func 182 [.ptr (.obj 201) 0]] (oe l) fun r s'=>r= .tuple [(if tG l t then DH l t else .nil).e,.bool (tG l t)]∧s'=oe l:=by
 have af:=BM l;unfold oe at af⊢;refine bC.mk mixed fH abI ait (by simp) af.obj fun aP cF=>?_;unfold PK;simp;refine cM.ob (adK (rq l) (Iu l) 240 [.ptr (.obj 202) 0] (by simp[inObs,rq]) (by simp) (uv l) (ac9 l) t fun v aI=>adH l v aq) (Iu l) (by unfold rq;exact aG) (by unfold rq;exact aG) (by simp[inObs,rq]) ?_;rintro r s' ⟨rfl,rfl⟩;refine⟨Same.refl _,?_⟩;unfold rq;simp[b0];(with_reducible repeat' first|((first|apply bG|apply bL|apply bK)<;>intro h<;>try simp at h)|refine aj ?_|simp)
 ·refine cJ.at _ (.inl rfl) af (Same.refl _) aG aG ?_;simp[cP,MF,aT,aW,aQ];have:tG l t=false:=by simp[tG];omega
  simp[this]
 ·refine cM.ob (adx (oe l) (BM l) 182 [.ptr (.obj 201) 0] (by simp[inObs,oe]) (by simp) (sg l) t fun v aI=>Sh l v aq _ rfl) (BM l) (by unfold oe;exact aG) (by unfold oe;exact aG) (by simp[inObs,oe]) ?_;rintro r s' ⟨rfl,rfl⟩;refine⟨Same.refl _,?_⟩;unfold oe;simp[b0];refine cJ.at _ (.inl rfl) af (Same.refl _) aG aG ?_;simp[cP,MF,aT,aW,aQ];have:tG l t=true:=by simp[tG];omega
  simp[this,DH]
theorem amD(l:List ak)(t:T)(aq:l.length≤1000000):bS az 95 [.slice 5 .no (l.map ak.e),t.e] (.tuple [(if tG l t then DH l t else .nil).e,.bool (tG l t)]):=by refine bq fH abG air fun aP=>?_;unfold PI;simp;refine cM.ob (adG l t aq) (BM l) (by unfold oe;exact aG) (by unfold oe;exact aG) (by simp[inObs,oe]) ?_;rintro r s' ⟨rfl,rfl⟩;refine⟨Same.refl _,?_⟩;unfold oe;simp[b0];simp[bp,Wl,aT,aW,aQ]
end Go.Proofs.YtohaalphocaebaaGreat
namespace Go.Pv
open Go
def T.ap(θ:Int→T):T→T
 | .var n=>θ n
 | .pair a b=>.pair (a.ap θ) (b.ap θ)
 |t=>t
theorem xq(f g:Int→T)(t:T):(t.ap f).ap g=t.ap fun v=>(f v).ap g:=by
 induction t with
 |pair a b dQ dR=>simp[T.ap,dQ,dR]
 |_=>simp[T.ap]
theorem pP{f g:Int→T}{t:T}(h:∀v,t.occ v=true→f v=g v):t.ap f=t.ap g:=by
 induction t with
 |var n=>exact h n (by simp[T.occ])
 |pair a b dQ dR=>simp only[T.ap];rw[dQ fun v aI=>h v (by simp[T.occ,aI]),dR fun v aI=>h v (by simp[T.occ,aI])]
 |_=>rfl
theorem OI(t:T):t.ap .var=t:=by induction t<;>simp_all[T.ap]
theorem OF{f:Int→T}{t:T}(h:∀v,t.occ v=true→f v= .var v):t.ap f=t:=(pP h).trans (OI t)
theorem Xu(f:Int→Option T)(t:T):t.sub f=t.ap fun v=>(f v).getD (.var v):=by
 induction t with
 |var n=>simp only[T.sub,T.ap];cases f n<;>rfl
 |pair a b dQ dR=>simp[T.sub,T.ap,dQ,dR]
 |_=>rfl
theorem Zi(θ:Int→T)(t:T):t.size≤(t.ap θ).size:=by
 induction t with
 |var n=>exact T.size_pos _
 |pair a b dQ dR=>simp only[T.ap,T.size];omega
 |_=>exact ff _
theorem AT(θ:Int→T){v:Int}{t:T}(h:t.occ v=true):(θ v).size≤(t.ap θ).size∧(t.kind≠1→(θ v).size<(t.ap θ).size):=by
 induction t with
 |var n=>simp[T.occ]at h;subst h;simp[T.ap,T.kind]
 |pair a b dQ dR=>
  simp only[T.occ,lY]at h;simp only[T.ap,T.size];rcases h with h|h
  ·have:=(dQ h).1;exact⟨by omega,fun _=>by omega⟩
  ·have:=(dR h).1;exact⟨by omega,fun _=>by omega⟩
 |_=>simp[T.occ]at h
theorem yv{θ:Int→T}{v:Int}{t:T}:(t.ap θ).occ v=true↔∃w,t.occ w=true∧(θ w).occ v=true:=by
 induction t with
 |var n=>simp[T.ap,T.occ]
 |pair a b dQ dR=>
  simp only[T.ap,T.occ,lY,dQ,dR];constructor
  ·rintro(⟨w,J,U⟩|⟨w,J,U⟩)
   ·exact⟨w,.inl J,U⟩
   ·exact⟨w,.inr J,U⟩
  ·rintro⟨w,J|J,U⟩
   ·exact .inl ⟨w,J,U⟩
   ·exact .inr ⟨w,J,U⟩
 |_=>simp[T.ap,T.occ]
def bF(s:List ak)(v:Int):T:=(cV s v).getD (.var v)
abbrev hL(s:List ak):Prop:=s.Pairwise fun x y=>x.v<y.v
def dD(s:List ak)(θ:Int→T):Prop:= ∀b∈s,θ b.v=b.t.ap θ
structure ey (s:List ak):Prop where
 asc:hL s
 free:∀b∈s,∀w,b.t.occ w=true→cV s w=none
 ori:∀b∈s,∀w,b.t= .var w→w<b.v
theorem ui(b:ak)(s:List ak)(v:Int):cV (b::s) v=if b.v=v then some b.t else cV s v:=by
 unfold cV;by_cases h:b.v=v
 ·simp[h]
 ·have:(b.v==v)=false:=by simp[h]
  simp[this,h,List.find?_cons]
theorem jS{v:Int}{t:T}:∀{s:List ak},cV s v=some t→(⟨v,t⟩:ak)∈s
 |[],h=>by simp[cV]at h
 |b::s,h=>by
  rw[ui]at h;split at h
  ·rename_i e;cases h;subst e;simp
  ·exact lA _ (jS h)
theorem sL{v:Int}:∀{s:List ak},cV s v=none↔∀b∈s,b.v≠v
 |[]=>by simp[cV]
 |b::s=>by
  rw[ui];by_cases h:b.v=v
  ·simp[h]
  ·simp[h,sL (s:=s)]
theorem qE{b:ak}:∀{s:List ak},hL s→b∈s→cV s b.v=some b.t
 |[],_,h=>by simp at h
 |c::s,bk,h=>by
  rw[ui];have nf:=mP.1 bk;rcases fA.1 h with rfl|h
  ·simp
  ·have:=nf.1 b h;rw[if_neg (by omega)];exact qE nf.2 h
theorem OJ:∀{s s':List ak},hL s→hL s'→(∀v,cV s v=cV s' v)→s=s'
 |[],[],_,_,_=>rfl
 |[],c::s',_,_,h=>by have:=h c.v;rw[ui]at this;simp[cV]at this
 |c::s,[],_,_,h=>by have:=h c.v;rw[ui]at this;simp[cV]at this
 |b::s,c::s',bk,ae,h=>by
  have gd:=mP.1 ae;have nf:=mP.1 bk;have J:(⟨b.v,b.t⟩:ak)∈c::s':=jS (by rw[←h b.v,ui];simp);have U:(⟨c.v,c.t⟩:ak)∈b::s:=jS (by rw[h c.v,ui];simp);have SG:b=c:=by
   rcases fA.1 J with e|e
   ·exact e
   ·rcases fA.1 U with ax|ax
    ·exact ax.symm
    ·have aV:=gd.1 _ e;have bf:=nf.1 _ ax;simp only at aV bf;omega
  subst SG;rw[OJ nf.2 gd.2 fun v=>?_];have:=h v;rw[ui,ui]at this;by_cases e:b.v=v
  ·have k7:cV s v=none:=sL.2 fun x ab=>by have:=nf.1 x ab;omega
   have z2:cV s' v=none:=sL.2 fun x ab=>by have:=gd.1 x ab;omega
   rw[k7,z2]
  ·simpa[e]using this
theorem Xl{s:List ak}(bk:hL s){θ:Int→T}:dD s θ↔∀v,θ v=(bF s v).ap θ:=by
 constructor
 ·intro h v;unfold bF;cases e:cV s v with
  |none=>rfl
  |some t=>exact h _ (jS e)
 ·intro h b ae;have:=h b.v;rw[bF,qE bk ae]at this;exact this
theorem Nu{s:List ak}{θ:Int→T}(h:dD s θ)(t:T):t.ap θ=(t.ap (bF s)).ap θ:=by
 rw[xq];refine pP fun v _=>?_;unfold bF;cases e:cV s v with
 |none=>rfl
 |some t=>exact h _ (jS e)
theorem ak8{s:List ak}(af:ey s){t:T}(h:∀w,t.occ w=true→cV s w=none):t.ap (bF s)=t:=OF fun v aI=>by simp[bF,h v aI]
theorem vn{s:List ak}(af:ey s):dD s (bF s):=fun b ae=>by rw[ak8 af (af.free b ae),bF,qE af.asc ae];rfl
theorem Dn{s s':List ak}(af:ey s)(fM:ey s')(h:∀θ,dD s' θ→dD s θ){v:Int}(aI:cV s' v=none):cV s v=none:=by
 cases e:cV s v with
 |none=>rfl
 |some t=>
  have J:=h _ (vn fM) _ (jS e);simp only[bF,aI,jq]at J;cases t with
  |var w=>
   have U:w<v:=af.ori _ (jS e) w rfl;simp only[T.ap,bF]at J;cases bn:cV s' w with
   |none=>rw[bn]at J;simp at J;omega
   |some u=>rw[bn]at J;simp only[jr]at J;subst J;have:=fM.ori _ (jS bn) v rfl;simp only at this;omega
  |_=>simp[T.ap]at J
theorem ahA{s s':List ak}(fM:ey s')(h:∀θ,dD s' θ→dD s θ){v:Int}:(bF s v).size≤(bF s' v).size:=by
 have J:=h _ (vn fM);unfold bF;cases e:cV s v with
 |none=>exact T.size_pos _
 |some t=>have:=J _ (jS e);show t.size≤(bF s' v).size;simp only at this;rw[this];exact Zi _ _
theorem HW{s s':List ak}(af:ey s)(fM:ey s')(h:∀θ,dD s θ↔dD s' θ):s=s':=by
 refine OJ af.asc fM.asc fun v=>?_;have d1:∀w,cV s w=none↔cV s' w=none:=fun w=>⟨Dn fM af (fun θ=>(h θ).1),Dn af fM fun θ=>(h θ).2⟩;cases e:cV s v with
 |none=>exact((d1 v).1 e).symm
 |some t=>
  cases fT:cV s' v with
  |none=>rw[(d1 v).2 fT]at e;cases e
  |some dF=>have J:=(h _).2 (vn fM) _ (jS e);simp only[bF,fT,jr]at J;rw[J];exact eU some (OF fun w hw=>by have:=(d1 w).1 (af.free _ (jS e) w hw);simp[bF,this]).symm
def gu(s:List ak):Prop:=s.length≤400∧∀b∈s,b.t.size≤5000
theorem Zs{s:List ak}(h:hL s):(s.map (·.v)).Nodup:=by rw[List.nodup_iff_pairwise_ne,List.pairwise_map];exact h.imp fun h=>by omega
theorem RS{s s':List ak}(af:ey s)(fM:ey s')(h:∀θ,dD s' θ→dD s θ)(aO:gu s'):gu s:=by
 have aE:∀x∈s.map (·.v),x∈s'.map (·.v):=by
  intro x ab;obtain⟨b,ae,rfl⟩:=hJ.1 ab;cases e:cV s' b.v with
  |none=>have:=Dn af fM h e;rw[qE af.asc ae]at this;cases this
  |some t=>exact hJ.2 ⟨_,jS e,rfl⟩
 have aq:=Iq (Zs af.asc) aE;simp only[List.length_map]at aq;refine⟨jR aq aO.1,fun b ae=>?_⟩;have J:=ahA (s:=s) fM h (v:=b.v);rw[bF,qE af.asc ae]at J;obtain⟨c,ar,e⟩:=hJ.1 (aE b.v (hJ.2 ⟨b,ae,rfl⟩));have U:=aO.2 c ar;rw[bF,←e,qE fM.asc ar]at J;exact jR J U
def iz(E:List (T×T))(θ:Int→T):Prop:= ∀e∈E,e.1.ap θ=e.2.ap θ
theorem D8(θ:Int→T):iz [] θ:=fun _ h=>by simp at h
theorem q9{e:T×T}{E:List (T×T)}{θ:Int→T}:iz (e::E) θ↔e.1.ap θ=e.2.ap θ∧iz E θ:=by simp[iz]
theorem D7{E mm:List (T×T)}{θ:Int→T}:iz (E++mm) θ↔iz E θ∧iz mm θ:=by simp only[iz,iH];exact⟨fun h=>⟨fun e he=>h e (.inl he),fun e he=>h e (.inr he)⟩,fun h e he=>he.elim (h.1 e) (h.2 e)⟩
def iL(s:List ak)(E:List (T×T)):Option (List ak)→Prop
 |some s'=>(ey s'∧gu s')∧∀θ,dD s' θ↔dD s θ∧iz E θ
 |none=> ∀s',ey s'→(∀θ,dD s' θ→dD s θ∧iz E θ)→¬gu s'
theorem Y1{s:List ak}{E:List (T×T)}:∀{o o':Option (List ak)},iL s E o→iL s E o'→o=o'
 |none,none,_,_=>rfl
 |some s1,none,h,cr=>absurd h.1.2 (cr s1 h.1.1 fun θ=>(h.2 θ).1)
 |none,some s1,cr,h=>absurd h.1.2 (cr s1 h.1.1 fun θ=>(h.2 θ).1)
 |some s1,some s2,h,cr=>by rw[HW h.1.1 cr.1.1 fun θ=>(h.2 θ).trans (cr.2 θ).symm]
theorem vA{s s2:List ak}{E Oh:List (T×T)}(h:∀θ,(dD s θ∧iz E θ)↔(dD s2 θ∧iz Oh θ)):∀{o:Option (List ak)},iL s E o→iL s2 Oh o
 |none,aK=>fun s' J U=>aK s' J fun θ fF=>(h θ).2 (U θ fF)
 |some s1,aK=>⟨aK.1,fun θ=>(aK.2 θ).trans (h θ)⟩
theorem ID{s s1:List ak}{E mm:List (T×T)}(h:iL s E (some s1)):∀{o:Option (List ak)},iL s1 mm o→iL s (E++mm) o
 |none,aK=>fun s' J U=>aK s' J fun θ fF=>⟨(h.2 θ).2 ⟨(U θ fF).1,(D7.1 (U θ fF).2).1⟩,(D7.1 (U θ fF).2).2⟩
 |some s2,aK=>⟨aK.1,fun θ=>by rw[aK.2 θ,h.2 θ,D7,and_assoc]⟩
theorem EG{s:List ak}{E:List (T×T)}(mm:List (T×T))(h:iL s E none):iL s (E++mm) none:=fun s' J U=>h s' J fun θ fF=>⟨(U θ fF).1,(D7.1 (U θ fF).2).1⟩
theorem EF{s:List ak}{E:List (T×T)}(h:∀θ,dD s θ→¬iz E θ):iL s E none:=fun s' J U=>absurd (U _ (vn J)).2 (h _ (U _ (vn J)).1)
theorem IE{s:List ak}(af:ey s)(aO:gu s):iL s [] (some s):=⟨⟨af,aO⟩,fun θ=>⟨fun h=>⟨h,D8 θ⟩,fun h=>h.1⟩⟩
def one(v:Int)(x:T)(w:Int):T:=if w=v then x else .var w
def oL(b:ak):List ak→List ak
 |[]=>[b]
 |c::s=>if b.v<c.v then b::c::s else c::oL b s
def mq(s:List ak)(v:Int)(x:T):List ak:=oL ⟨v,x⟩ (s.map fun b=>⟨b.v,b.t.ap (one v x)⟩)
theorem LQ{b x:ak}:∀{s:List ak},x∈oL b s↔x=b∨x∈s
 |[]=>by simp[oL]
 |c::s=>by
  simp only[oL];split
  ·simp
  ·simp only[fA,LQ (s:=s)];constructor
   ·rintro(h|h|h)
    ·exact .inr (.inl h)
    ·exact .inl h
    ·exact .inr (.inr h)
   ·rintro(h|h|h)
    ·exact .inr (.inl h)
    ·exact .inl h
    ·exact .inr (.inr h)
theorem UE{b:ak}:∀{s:List ak},(oL b s).length=s.length+1
 |[]=>rfl
 |c::s=>by simp only[oL];split<;>simp[UE]
theorem OK{b:ak}:∀{s:List ak},hL s→(∀c∈s,c.v≠b.v)→hL (oL b s)
 |[],_,_=>by simp[oL]
 |c::s,bk,au=>by
  have nf:=mP.1 bk;simp only[oL];split
  ·rename_i bm;refine mP.2 ⟨fun x ab=>?_,bk⟩;rcases fA.1 ab with rfl|ab
   ·exact bm
   ·have:=nf.1 x ab;omega
  ·rename_i vY;refine mP.2 ⟨fun x ab=>?_,OK nf.2 fun c ar=>au c (by simp[ar])⟩;rcases LQ.1 ab with rfl|ab
   ·have:=au c (by simp);omega
   ·exact nf.1 x ab
theorem qb{s:List ak}{v:Int}{x:T}{b:ak}:b∈mq s v x↔b=⟨v,x⟩∨ ∃c∈s,b=⟨c.v,c.t.ap (one v x)⟩:=by unfold mq;rw[LQ,hJ];refine or_congr Iff.rfl ⟨fun⟨c,J,U⟩=>⟨c,J,U.symm⟩,fun⟨c,J,U⟩=>⟨c,J,U.symm⟩⟩
theorem VE{v:Int}{x:T}{θ:Int→T}(h:θ v=x.ap θ)(t:T):(t.ap (one v x)).ap θ=t.ap θ:=by
 rw[xq];refine pP fun w _=>?_;unfold one;split
 ·rename_i e;subst e;exact h.symm
 ·rfl
theorem EM{s:List ak}{v w:Int}{x:T}:cV (mq s v x) w=none↔w≠v∧cV s w=none:=by
 rw[sL,sL];constructor
 ·intro h;exact⟨fun e=>h ⟨v,x⟩ (qb.2 (.inl rfl)) e.symm,fun b ae=>h ⟨b.v,b.t.ap (one v x)⟩ (qb.2 (.inr ⟨b,ae,rfl⟩))⟩
 ·rintro⟨J,U⟩ b ae;rcases qb.1 ae with rfl|⟨c,ar,rfl⟩
  ·exact fun e=>J e.symm
  ·exact U c ar
theorem Nq{s:List ak}(af:ey s){t:T}{w:Int}(h:(t.ap (bF s)).occ w=true):cV s w=none:=by
 obtain⟨u,_,U⟩:=yv.1 h;unfold bF at U;cases e:cV s u with
 |none=>rw[e]at U;simp[T.occ]at U;subst U;exact e
 |some t=>rw[e]at U;exact af.free _ (jS e) w U
theorem als{s:List ak}(af:ey s){v:Int}{t:T}(aI:cV s v=none)(av:(t.ap (bF s)).occ v=false)(th:∀w,t.ap (bF s)= .var w→w<v):ey (mq s v (t.ap (bF s))):=by
 have ab:∀w,(t.ap (bF s)).occ w=true→cV (mq s v (t.ap (bF s))) w=none:=fun w hw=>EM.2 ⟨fun e=>(by subst e;rw[av]at hw;cases hw),Nq af hw⟩;refine⟨OK ?_ ?_,fun b ae w hw=>?_,fun b ae w hw=>?_⟩
 ·rw[hL,List.pairwise_map];exact af.asc
 ·intro c ar;obtain⟨b,ae,rfl⟩:=hJ.1 ar;exact sL.1 aI b ae
 ·rcases qb.1 ae with rfl|⟨c,ar,rfl⟩
  ·exact ab w hw
  ·obtain⟨u,J,U⟩:=yv.1 hw;unfold one at U;split at U
   ·exact ab w U
   ·rename_i cD;simp[T.occ]at U;subst U;exact EM.2 ⟨cD,af.free c ar _ J⟩
 ·rcases qb.1 ae with rfl|⟨c,ar,rfl⟩
  ·exact th w hw
  ·simp only at hw⊢;cases e:c.t with
   |var u=>
    have:=af.ori c ar u e;rw[e]at hw;simp only[T.ap,one]at hw;split at hw
    ·rename_i ax;subst ax;have:=th w hw;omega
    ·cases hw;exact this
   |_=>rw[e]at hw;simp[T.ap]at hw
theorem Xk{s:List ak}{v:Int}{t:T}(θ:Int→T):dD (mq s v (t.ap (bF s))) θ↔dD s θ∧iz [(.var v,t)] θ:=by
 have ai:iz [(.var v,t)] θ↔θ v=t.ap θ:=by simp[iz,T.ap]
 rw[ai];constructor
 ·intro h;have bD:θ v=(t.ap (bF s)).ap θ:=h _ (qb.2 (.inl rfl));have J:dD s θ:=fun b ae=>by have:=h _ (qb.2 (.inr ⟨b,ae,rfl⟩));simp only at this;rw[VE bD]at this;exact this
  exact⟨J,by rw[Nu J t];exact bD⟩
 ·rintro⟨J,U⟩ b ae;have bD:θ v=(t.ap (bF s)).ap θ:=by rw[←Nu J t];exact U
  rcases qb.1 ae with rfl|⟨c,ar,rfl⟩
  ·exact bD
  ·simp only;rw[VE bD];exact J c ar
open Classical in
theorem YY{s:List ak}(af:ey s){v:Int}{t:T}(aI:cV s v=none)(av:(t.ap (bF s)).occ v=false)(th:∀w,t.ap (bF s)= .var w→w<v):iL s [(.var v,t)] (if gu (mq s v (t.ap (bF s)))then some (mq s v (t.ap (bF s)))else none):=by
 have J:=als af aI av th;split
 ·rename_i aO;exact⟨⟨J,aO⟩,Xk⟩
 ·rename_i aO;exact fun s' U ao a1=>aO (RS J U (fun θ fF=>(Xk θ).2 (ao θ fF)) a1)
def hs(s:List ak):T→T
 | .var n=>bF s n
 |t=>t
def nL(s:List ak)(v:Int)(t:T):Option (List ak):=if(t.ap (bF s)).size≤5000∧(t.ap (bF s)).occ v=false∧s.length<400∧∀b∈s,(b.t.ap (one v (t.ap (bF s)))).size≤5000 then some (mq s v (t.ap (bF s)))else none
def j3(rec:List ak→T→T→Option (Option (List ak)))(s:List ak):T→T→Option (Option (List ak))
 | .var i,.var j=>some (if i<j then nL s j (.var i)else if i=j then some s else nL s i (.var j))
 | .var i,y=>some (nL s i y)
 |x,.var j=>some (nL s j x)
 | .pair bt a2,.pair bM bO=>match rec s bt bM with
  |none=>none
  |some none=>some none
  |some (some s1)=>rec s1 a2 bO
 |x,y=>some (if x=y then some s else none)
def kL:Nat→List ak→T→T→Option (Option (List ak))
 |0,_,_,_=>none
 |n+1,s,a,b=>j3 (kL n) s (hs s a) (hs s b)
theorem alS{rec MZ:List ak→T→T→Option (Option (List ak))}(h:∀s a b o,rec s a b=some o→MZ s a b=some o){s:List ak}{x y:T}{o:Option (List ak)}(he:j3 rec s x y=some o):j3 MZ s x y=some o:=by
 cases x<;>cases y<;>simp only[j3]at he⊢ <;>try exact he
 rename_i bt a2 bM bO;cases e:rec s bt bM with
 |none=>rw[e]at he;cases he
 |some fv=>
  rw[e]at he;rw[h _ _ _ _ e];cases fv with
  |none=>exact he
  |some s1=>exact h _ _ _ _ he
theorem Eb:∀{n m:Nat} {s:List ak} {a b:T} {o:Option (List ak)},n≤m→kL n s a b=some o→kL m s a b=some o
 |0,_,_,_,_,_,_,h=>by simp[kL]at h
 |n+1,0,_,_,_,_,hm,_=>by omega
 |n+1,m+1,s,a,b,o,hm,h=>by simp only[kL]at h⊢;exact alS (fun s a b o h=>Eb (by omega) h) h
theorem JZ{s:List ak}{v:Int}{x:T}:gu (mq s v x)↔(x.size≤5000∧s.length<400∧∀b∈s,(b.t.ap (one v x)).size≤5000):=by
 have aq:(mq s v x).length=s.length+1:=by simp[mq,UE]
 unfold gu;rw[aq];constructor
 ·rintro⟨J,U⟩;exact⟨U _ (qb.2 (.inl rfl)),by omega,fun b ae=>U _ (qb.2 (.inr ⟨b,ae,rfl⟩))⟩
 ·rintro⟨J,U,ao⟩;refine⟨by omega,fun b ae=>?_⟩;rcases qb.1 ae with rfl|⟨c,ar,rfl⟩
  ·exact J
  ·exact ao c ar
theorem YZ{s:List ak}(af:ey s){v:Int}{t:T}(aI:cV s v=none)(cD:t.ap (bF s)≠ .var v)(th:∀w,t.ap (bF s)= .var w→w<v):iL s [(.var v,t)] (nL s v t):=by
 unfold nL;cases av:(t.ap (bF s)).occ v with
 |true=>
  rw[if_neg (by simp)];refine EF fun θ J U=>?_;have ao:=(q9.1 U).1;simp only[T.ap]at ao;rw[Nu J t]at ao;have ad:(t.ap (bF s)).kind≠1:=by
   intro ad;cases e:t.ap (bF s)with
   |var w=>rw[e]at av;simp[T.occ]at av;subst av;exact cD e
   |_=>rw[e]at ad;simp[T.kind]at ad
  have:=(AT θ av).2 ad;rw[←ao]at this;omega
 |false=>
  have J:=YY af aI av th;by_cases aO:gu (mq s v (t.ap (bF s)))
  ·rw[if_pos aO]at J;rw[if_pos ⟨(JZ.1 aO).1,rfl,(JZ.1 aO).2⟩];exact J
  ·rw[if_neg aO]at J;rw[if_neg fun h=>aO (JZ.2 ⟨h.1,h.2.2⟩)];exact J
theorem Yq{s:List ak}(af:ey s){t:T}{i:Int}(h:hs s t= .var i):cV s i=none:=by
 cases t with
 |var n=>
  simp only[hs,bF]at h;cases e:cV s n with
  |none=>rw[e]at h;simp at h;subst h;exact e
  |some u=>rw[e]at h;simp at h;subst h;exact af.free _ (jS e) i (by simp[T.occ])
 |_=>simp[hs]at h
theorem N5{s:List ak}{θ:Int→T}(h:dD s θ)(t:T):(hs s t).ap θ=t.ap θ:=by
 cases t with
 |var n=>
  simp only[hs,T.ap,bF];cases e:cV s n with
  |none=>rfl
  |some u=>exact(h _ (jS e)).symm
 |_=>rfl
theorem Ys{s:List ak}(af:ey s)(t:T):(hs s t).ap (bF s)=t.ap (bF s):=N5 (vn af) t
def p1(V:List Int)(t:T):Prop:= ∀w,t.occ w=true→w∈V
def yc(V:List Int)(s:List ak):Prop:= ∀b∈s,b.v∈V∧p1 V b.t
def zr(V:List Int)(s:List ak):Nat:=(V.filter fun v=>(cV s v).isNone).length
theorem RQ{α:Type}{p q:α→Bool}{v:α}:∀{V:List α},(∀x∈V,q x=true→p x=true)→v∈V→p v=true→q v=false→(V.filter q).length<(V.filter p).length
 |[],_,h,_,_=>by simp at h
 |x::V,h,aI,bB,bu=>by
  have hle:∀W:List α,(∀x∈W,q x=true→p x=true)→(W.filter q).length≤(W.filter p).length:=by
   intro W;induction W with
   |nil=>intro _;simp
   |cons y W bP=>intro Cr;have:=bP fun x ab=>Cr x (by simp[ab]);have aD:=Cr y (by simp);simp only[List.filter_cons];cases e:q y<;>cases ax:p y<;>simp_all<;>omega
  simp only[List.filter_cons];rcases fA.1 aI with rfl|aI
  ·have:=hle V fun x ab=>h x (by simp[ab]);simp[bB,bu];omega
  ·have:=RQ (fun x ab=>h x (lA _ ab)) aI bB bu;have ab:=h x (by simp);cases e:q x<;>cases ax:p x<;>simp_all<;>omega
theorem ZL{V:List Int}{s:List ak}{v:Int}{x:T}(aI:v∈V)(au:cV s v=none):zr V (mq s v x)<zr V s:=by
 unfold zr;refine RQ (v:=v) (fun w _ h=>?_) aI (by simp[au]) ?_
 ·rw[Option.isNone_iff_eq_none,EM]at h;simp[h.2]
 ·cases e:cV (mq s v x) v with
  |none=>exact absurd rfl (EM.1 e).1
  |some _=>rfl
theorem TV{V:List Int}{s:List ak}(h:yc V s){t:T}(aL:p1 V t):p1 V (t.ap (bF s)):=fun w hw=>by
 obtain⟨u,J,U⟩:=yv.1 hw;unfold bF at U;cases e:cV s u with
 |none=>rw[e]at U;simp[T.occ]at U;subst U;exact aL _ J
 |some x=>rw[e]at U;exact(h _ (jS e)).2 w U
theorem agb{V:List Int}{s:List ak}(h:yc V s){v:Int}{x:T}(aI:v∈V)(ab:p1 V x):yc V (mq s v x):=fun b ae=>by
 rcases qb.1 ae with rfl|⟨c,ar,rfl⟩
 ·exact⟨aI,ab⟩
 ·refine⟨(h c ar).1,fun w hw=>?_⟩;obtain⟨u,J,U⟩:=yv.1 hw;unfold one at U;split at U
  ·exact ab w U
  ·simp[T.occ]at U;subst U;exact(h c ar).2 _ J
theorem TW{V:List Int}{s:List ak}(h:yc V s){t:T}(aL:p1 V t):p1 V (hs s t):=by
 cases t with
 |var n=>have:=TV h aL;simpa[hs,T.ap]using this
 |_=>exact aL
def BP(V:List Int)(s:List ak)(a b:T)(o:Option (List ak)):Prop:=iL s [(a,b)] o∧∀s',o=some s'→yc V s'∧(s'=s∨zr V s'<zr V s)
theorem Ec{V:List Int}{s:List ak}(af:ey s)(iP:yc V s){v:Int}{t a b:T}(aI:v∈V)(aL:p1 V t)(au:cV s v=none)(cD:t.ap (bF s)≠ .var v)(th:∀w,t.ap (bF s)= .var w→w<v)(ar:∀θ,dD s θ→(θ v=t.ap θ↔a.ap θ=b.ap θ)):BP V s a b (nL s v t):=by
 refine⟨vA (fun θ=>?_) (YZ af au cD th),fun s' h=>?_⟩
 ·refine and_congr_right fun h=>?_;rw[q9,q9];simp only[T.ap,ar θ h]
 ·unfold nL at h;split at h
  ·cases h;exact⟨agb iP aI (TV iP aL),.inr (ZL aI au)⟩
  ·cases h
theorem Bm{s:List ak}{i:Int}(h:cV s i=none):bF s i= .var i:=by simp[bF,h]
theorem XD(V:List Int)(k:Nat):∀(m:Nat) (s:List ak) (a b:T),ey s→gu s→yc V s→p1 V a→p1 V b→zr V s=k→(a.ap (bF s)).size+(b.ap (bF s)).size=m→
  ∃n o,kL n s a b=some o∧BP V s a b o:=by
 induction k using qw with
 |ind k Ld=>
 intro m;induction m using qw with
 |ind m Ap=>
 intro s a b af aO iP bk ae ad hm;have ab:=TW iP bk;have aD:=TW iP ae;have ND:=Ys af a;have NF:=Ys af b;have ug:=fun θ (h:dD s θ)=>N5 h a;have nK:=fun θ (h:dD s θ)=>N5 h b;have qN:=fun i=>Yq af (t:=a) (i:=i);have J3:=fun i=>Yq af (t:=b) (i:=i);have key:∀(rec:List ak→T→T→Option (Option (List ak))) (o:Option (List ak)),j3 rec s (hs s a) (hs s b)=some o→(∀bt a2 bM bO,hs s a= .pair bt a2→hs s b= .pair bM bO→BP V s a b o)→BP V s a b o:=by
  intro rec o he bB;cases ex:hs s a with
  |var i=>
   have zC:=qN i ex;have qD:=fun θ h=>(ug θ h).symm.trans (by rw[ex]);cases h9:hs s b with
   |var j=>
    have xG:=J3 j h9;have o4:=fun θ h=>(nK θ h).symm.trans (by rw[h9]);rw[ex,h9]at he;simp only[j3]at he;have hi:i∈V:=by rw[ex]at ab;exact ab i (by simp[T.occ])
    have ag:j∈V:=by rw[h9]at aD;exact aD j (by simp[T.occ])
    rcases Int.lt_trichotomy i j with h|h|h
    ·rw[if_pos h]at he;cases he;refine Ec af iP ag (by rw[ex]at ab;exact ab) xG (by simp[T.ap,Bm zC];omega) (fun w hw=>by simp[T.ap,Bm zC]at hw;omega) fun θ fF=>?_;rw[qD θ fF,o4 θ fF];simp only[T.ap];exact⟨Eq.symm,Eq.symm⟩
    ·subst h;rw[if_neg (by omega),if_pos rfl]at he;cases he;refine⟨⟨⟨af,aO⟩,fun θ=>⟨fun h=>⟨h,q9.2 ⟨?_,D8 θ⟩⟩,fun h=>h.1⟩⟩,fun s' e=>by cases e;exact⟨iP,.inl rfl⟩⟩;simp only;rw[qD θ h,o4 θ h]
    ·rw[if_neg (by omega),if_neg (by omega)]at he;cases he;refine Ec af iP hi (by rw[h9]at aD;exact aD) zC (by simp[T.ap,Bm xG];omega) (fun w hw=>by simp[T.ap,Bm xG]at hw;omega) fun θ fF=>?_;rw[qD θ fF,o4 θ fF];simp only[T.ap]
   |_=>have o4:=fun θ h=>(nK θ h).symm.trans (by rw[h9]);rw[ex,h9]at he;simp only[j3]at he;cases he;refine Ec af iP (by rw[ex]at ab;exact ab i (by simp[T.occ])) (by rw[h9]at aD;exact aD) zC (by simp[T.ap]) (fun w hw=>by simp[T.ap]at hw) fun θ fF=>?_;rw[qD θ fF,o4 θ fF];simp only[T.ap]
  |pair bt a2=>
   cases h9:hs s b with
   |pair bM bO=>exact bB bt a2 bM bO ex h9
   |var j=>have xG:=J3 j h9;have qD:=fun θ h=>(ug θ h).symm.trans (by rw[ex]);have o4:=fun θ h=>(nK θ h).symm.trans (by rw[h9]);rw[ex,h9]at he;simp only[j3]at he;cases he;refine Ec af iP (by rw[h9]at aD;exact aD j (by simp[T.occ])) (by rw[ex]at ab;exact ab) xG (by simp[T.ap]) (fun w hw=>by simp[T.ap]at hw) fun θ fF=>?_;rw[qD θ fF,o4 θ fF];simp only[T.ap];exact⟨Eq.symm,Eq.symm⟩
   |_=>have qD:=fun θ h=>(ug θ h).symm.trans (by rw[ex]);have o4:=fun θ h=>(nK θ h).symm.trans (by rw[h9]);rw[ex,h9]at he;simp only[j3]at he;simp at he;subst he;refine⟨EF fun θ J U=>?_,fun s' e=>by cases e⟩;have:=(q9.1 U).1;simp only at this;rw[qD θ J,o4 θ J]at this;simp[T.ap]at this
  |_=>
   have qD:=fun θ h=>(ug θ h).symm.trans (by rw[ex]);cases h9:hs s b with
   |var j=>have xG:=J3 j h9;have o4:=fun θ h=>(nK θ h).symm.trans (by rw[h9]);rw[ex,h9]at he;simp only[j3]at he;cases he;refine Ec af iP (by rw[h9]at aD;exact aD j (by simp[T.occ])) (by rw[ex]at ab;exact ab) xG (by simp[T.ap]) (fun w hw=>by simp[T.ap]at hw) fun θ fF=>?_;rw[qD θ fF,o4 θ fF];simp only[T.ap];exact⟨Eq.symm,Eq.symm⟩
   |_=>
    have o4:=fun θ h=>(nK θ h).symm.trans (by rw[h9]);rw[ex,h9]at he;simp only[j3,dw]at he;split at he
    ·rename_i e;subst he;refine⟨⟨⟨af,aO⟩,fun θ=>⟨fun h=>⟨h,q9.2 ⟨?_,D8 θ⟩⟩,fun h=>h.1⟩⟩,fun s' e=>by cases e;exact⟨iP,.inl rfl⟩⟩;simp only;rw[qD θ h,o4 θ h];try rw[e]
    ·rename_i e;subst he;refine⟨EF fun θ J U=>?_,fun s' e=>by cases e⟩;have:=(q9.1 U).1;simp only at this;rw[qD θ J,o4 θ J]at this;simp[T.ap]at this e;try exact e this
 by_cases F3:∃bt a2 bM bO,hs s a= .pair bt a2∧hs s b= .pair bM bO
 ·obtain⟨bt,a2,bM,bO,ex,h9⟩:=F3;have et:(bt.ap (bF s)).size+(bM.ap (bF s)).size<m∧(a2.ap (bF s)).size+(bO.ap (bF s)).size<m:=by rw[ex]at ND;rw[h9]at NF;simp only[T.ap]at ND NF;rw[←hm,←ND,←NF];simp only[T.size];omega
  have ll:p1 V bt:=fun w hw=>by rw[ex]at ab;exact ab w (by simp[T.occ,hw])
  have pW:p1 V a2:=fun w hw=>by rw[ex]at ab;exact ab w (by simp[T.occ,hw])
  have hP:p1 V bM:=fun w hw=>by rw[h9]at aD;exact aD w (by simp[T.occ,hw])
  have nj:p1 V bO:=fun w hw=>by rw[h9]at aD;exact aD w (by simp[T.occ,hw])
  have SR:∀θ,(dD s θ∧iz ([(bt,bM)]++[(a2,bO)]) θ)↔(dD s θ∧iz [(a,b)] θ):=fun θ=>and_congr_right fun h=>by simp only[List.singleton_append,q9,D8,and_true];rw[←ug θ h,←nK θ h,ex,h9];simp[T.ap]
  obtain⟨hA,fv,ai,cC⟩:=Ap _ et.1 s bt bM af aO iP ll hP ad rfl;cases fv with
  |none=>refine⟨hA+1,none,?_,vA SR (EG _ cC.1),fun s' e=>by cases e⟩;simp only[kL,ex,h9,j3,ai]
  |some s1=>
   obtain⟨v1,v2⟩:=cC.2 s1 rfl;have CR:∃fN gH,kL fN s1 a2 bO=some gH∧BP V s1 a2 bO gH:=by
    rcases v2 with rfl|v2
    ·exact Ap _ et.2 _ a2 bO af aO iP pW nj ad rfl
    ·exact Ld _ (by omega) _ s1 a2 bO cC.1.1.1 cC.1.1.2 v1 pW nj rfl rfl
   obtain⟨fN,gH,ax,da⟩:=CR;refine⟨max hA fN+1,gH,?_,vA SR (ID cC.1 da.1),fun s' e=>?_⟩
   ·simp only[kL,ex,h9,j3,Eb (Nat.le_max_left hA fN) ai];exact Eb (Nat.le_max_right hA fN) ax
   ·obtain⟨fW,dS⟩:=da.2 s' e;refine⟨fW,?_⟩;rcases v2 with rfl|v2
    ·exact dS
    ·rcases dS with rfl|dS
     ·exact .inr v2
     ·exact .inr (by omega)
 ·have Tq:∀bt a2 bM bO,hs s a= .pair bt a2→hs s b= .pair bM bO→ep:=fun bt a2 bM bO J U=>F3 ⟨bt,a2,bM,bO,J,U⟩;have:∃o,j3 (kL 0) s (hs s a) (hs s b)=some o:=by cases ex:hs s a<;>cases h9:hs s b<;>simp only[j3]<;>first|exact⟨_,rfl⟩|exact(Tq _ _ _ _ ex h9).elim
  obtain⟨o,av⟩:=this;exact⟨1,o,av,key _ o av fun bt a2 bM bO J U=>(Tq bt a2 bM bO J U).elim⟩
def tg{α:Type}(k:Int):List (Int×α)→Option α
 |[]=>none
 |(i,v)::r=>if k=i then some v else tg k r
def eX{α:Type}(k:Int)(v:α):List (Int×α)→List (Int×α)
 |[]=>[(k,v)]
 |(i,w)::r=>if k=i then(i,v)::r else(i,w)::eX k v r
def cl{α:Type}(m:List (Int×α)):List Int:=m.map (·.1)
theorem nB{α:Type}(k:Int)(v:α)(j:Int):∀m:List (Int×α),tg j (eX k v m)=if j=k then some v else tg j m
 |[]=>by simp only[eX,tg]
 |(i,w)::r=>by
  simp only[eX];by_cases h:k=i
  ·subst h;by_cases U:j=k<;>simp[tg,U]
  ·by_cases U:j=i
   ·subst U;have:¬j=k:=fun e=>h e.symm;simp[tg,h,this]
   ·simp[tg,h,U,nB k v j r]
theorem H0{α:Type}{k:Int}:∀{m:List (Int×α)},(tg k m).isSome=true↔k∈cl m
 |[]=>by simp[tg,cl]
 |(i,w)::r=>by
  simp only[tg,cl,gP,fA];by_cases h:k=i
  ·simp[h]
  ·simp only[h,if_false,false_or];exact H0
theorem alM{α:Type}{k:Int}{m:List (Int×α)}:tg k m=none↔k∉cl m:=by rw[←H0];cases tg k m<;>simp
theorem C9{α:Type}{k:Int}{v:α}:∀{m:List (Int×α)},k∈cl m→cl (eX k v m)=cl m
 |[],h=>by simp[cl]at h
 |(i,w)::r,h=>by
  simp only[eX];by_cases e:k=i
  ·simp[e,cl]
  ·rw[if_neg e];have cr:k∈cl r:=by simpa[cl,e]using h
   have:=C9 (v:=v) cr;simp only[cl]at this⊢;simp[this]
theorem Uo{α:Type}{k:Int}{v:α}:∀{m:List (Int×α)},k∉cl m→cl (eX k v m)=cl m++[k]
 |[],h=>by simp[cl,eX]
 |(i,w)::r,h=>by have e:¬k=i:=fun e=>h (by simp[cl,e]);have cr:k∉cl r:=fun ad=>h (by simp[cl]at ad⊢;exact .inr ad);have:=Uo (v:=v) cr;simp only[eX,if_neg e];simp only[cl]at this⊢;simp[this]
structure bo where
 up:List (Int×Int)
 shape:List (Int×T)
 shaped:List (Int×Bool)
 color:List (Int×Int)
 size:List (Int×Int)
 full:List (Int×T)
def bo.shd(c:bo)(x:Int):Bool:=(tg x c.shaped).getD false
def bo.shp(c:bo)(x:Int):T:=(tg x c.shape).getD .nil
def bo.col(c:bo)(x:Int):Int:=(tg x c.color).getD 0
def bo.sz(c:bo)(x:Int):Int:=(tg x c.size).getD 0
def iZ(m:List (Int×Int))(v:Int):Int:=(tg v m).getD 0
def wY:Nat→List (Int×Int)→Int→Option (Int×List (Int×Int))
 |0,_,_=>none
 |n+1,m,v=>if iZ m v=v then some (v,m)else wY n (eX v (iZ m (iZ m v)) m) (iZ (eX v (iZ m (iZ m v)) m) v)
def zf(v:Int)(m:List (Int×Int)):List (Int×Int):=if(tg v m).isSome then m else eX v v m
def rt(c:bo)(v:Int):Option (Int×bo):=(wY (v.toNat+1) (zf v c.up) v).map fun p=>(p.1,{c with up:=p.2})
def T.foldO{α:Type}(f:Int→α→Option α):T→α→Option α
 | .var n,a=>f n a
 | .pair x y,a=>(x.foldO f a).bind (y.foldO f)
 |_,a=>some a
def T.mapO{α:Type}(f:Int→α→Option (T×α)):T→α→Option (T×α)
 | .var n,a=>f n a
 | .pair x y,a=>(x.mapO f a).bind fun p=>(y.mapO f p.2).map fun q=>(.pair p.1 q.1,q.2)
 |t,a=>some (t,a)
def T.sizeO{α:Type}(f:Int→α→Option (Int×α)):T→α→Option (Int×α)
 | .var n,a=>(f n a).map fun p=>(if 5001<p.1 then 5001 else p.1,p.2)
 | .pair x y,a=>(x.sizeO f a).bind fun p=>if 5000<p.1 then some p else(y.sizeO f p.2).map fun q=>(if 5001<1+p.1+q.1 then 5001 else 1+p.1+q.1,q.2)
 |_,a=>some (1,a)
def AI(t:T)(c:bo):Option bo:=t.foldO (fun v c=>(rt c v).map (·.2)) c
structure ua where
 c:bo
 seen:List (Int×Bool)
 found:Bool
def wX(rec:T→bo→List (Int×Bool)→Option ua)(x:Int)(v:Int)(a:ua):Option ua:=
 (rt a.c v).bind fun p=>if a.found=true∨p.1=x then some ⟨p.2,a.seen,true⟩
  else if(tg p.1 a.seen).getD false=false∧p.2.shd p.1=true then rec (p.2.shp p.1) p.2 (eX p.1 true a.seen)
  else some ⟨p.2,a.seen,a.found⟩
def pE:Nat→Int→T→bo→List (Int×Bool)→Option ua
 |0,_,_,_,_=>none
 |n+1,x,t,c,seen=>t.foldO (wX (pE n x) x) ⟨c,seen,false⟩
def bo.know(c:bo)(x:Int)(t:T):bo:={c with shape:=eX x t c.shape,shaped:=eX x true c.shaped}
def uV(n:Nat)(x:Int)(t:T)(c:bo):Option (Bool×bo):=(pE n x t (c.know x t) []).map fun a=>(!a.found,a.c)
def bo.join(c:bo)(x y:Int):bo:={c with up:=eX y x c.up}
def rB(rec:T→T→bo→Option (Bool×bo))(n:Nat)(x y:Int)(c:bo):Option (Bool×bo):=
 if c.shd y=false then
  (if c.shd x=false then some (true,c)else(pE n x (c.shp x) c []).map fun a=>(!a.found,a.c))
 else if c.shd x=false then uV n x (c.shp y) c
 else(pE n x (c.shp y) c []).bind fun a=>if a.found=true then some (false,a.c)else
  (pE n x (a.c.shp x) a.c []).bind fun b=>if b.found=true then some (false,b.c)else rec (b.c.shp x) (c.shp y) b.c
def gE:Nat→T→T→bo→Option (Bool×bo)
 |0,_,_,_=>none
 |n+1,.var i,.var j,c=>(rt c i).bind fun p=>(rt p.2 j).bind fun q=>if p.1=q.1 then some (true,q.2)else if q.1<p.1 then rB (gE n) n q.1 p.1 (q.2.join q.1 p.1)else rB (gE n) n p.1 q.1 (q.2.join p.1 q.1)
 |n+1,.var i,b,c=>(rt c i).bind fun p=>if p.2.shd p.1=false then uV n p.1 b p.2 else gE n (p.2.shp p.1) b p.2
 |n+1,a,.var j,c=>gE n (.var j) a c
 |n+1,.pair bt a2,.pair bM bO,c=>(gE n bt bM c).bind fun p=>if p.1=true then gE n a2 bO p.2 else some (false,p.2)
 |_+1,a,b,c=>some (decide (a=b),c)
structure jE (m:List (Int×Int)) (ρ:Int→Int):Prop where
 up:∀v u,tg v m=some u→(0≤u∧u≤v∧u∈cl m)∧ρ u=ρ v∧(ρ v=v↔u=v)
 no:∀v,v∉cl m→ρ v=v
theorem jE.get{m:List (Int×Int)}{ρ:Int→Int}(h:jE m ρ){v:Int}(aI:v∈cl m):∃u,tg v m=some u∧iZ m v=u:=by have:=H0.2 aI;obtain⟨u,hu⟩:=fB.1 this;exact⟨u,hu,by simp[iZ,hu]⟩
theorem jE.root{m:List (Int×Int)}{ρ:Int→Int}(h:jE m ρ):∀(n:Nat) (v:Int),v.toNat≤n→(ρ v≤v∧ρ (ρ v)=ρ v∧(v∈cl m→ρ v∈cl m∧0≤ρ v)):=by
 intro n;induction n using qw with
 |ind n bP=>
 intro v au;by_cases aI:v∈cl m
 ·obtain⟨u,J,_⟩:=h.get aI;obtain⟨⟨bt,a2,a3⟩,a4,a5⟩:=h.up v u J;by_cases e:u=v
  ·have:=a5.2 e;subst e;rw[this];exact⟨by omega,this,fun _=>⟨a3,bt⟩⟩
  ·obtain⟨bM,bO,gg⟩:=bP (u.toNat) (by omega) u (by omega);rw[←a4];exact⟨by omega,bO,fun _=>gg a3⟩
 ·have:=h.no v aI;rw[this];exact⟨by omega,this,fun h=>absurd h aI⟩
theorem jE.le{m:List (Int×Int)}{ρ:Int→Int}(h:jE m ρ)(v:Int):ρ v≤v:=(h.root v.toNat v (ff _)).1
theorem jE.idem{m:List (Int×Int)}{ρ:Int→Int}(h:jE m ρ)(v:Int):ρ (ρ v)=ρ v:=(h.root v.toNat v (ff _)).2.1
theorem jE.mem{m:List (Int×Int)}{ρ:Int→Int}(h:jE m ρ){v:Int}(aI:v∈cl m):ρ v∈cl m∧0≤ρ v:=(h.root v.toNat v (ff _)).2.2 aI
theorem Xb{ρ:Int→Int}:∀(n:Nat) (m:List (Int×Int)) (v:Int),jE m ρ→v∈cl m→v.toNat<n→∃m',wY n m v=some (ρ v,m')∧jE m' ρ∧cl m'=cl m
 |0,_,_,_,_,au=>by omega
 |n+1,m,v,h,aI,au=>by
  obtain⟨u,J,U⟩:=h.get aI;obtain⟨⟨bt,a2,a3⟩,a4,a5⟩:=h.up v u J;simp only[wY,U];by_cases e:u=v
  ·rw[if_pos e];have:=a5.2 e;exact⟨m,by rw[this],h,rfl⟩
  ·rw[if_neg e];obtain⟨x,g1,g2⟩:=h.get a3;obtain⟨⟨bM,bO,gg⟩,uh,OP⟩:=h.up u x g1;rw[g2];have ad:=C9 (v:=x) aI;have ma:jE (eX v x m) ρ:=by
    refine⟨fun w y hw=>?_,fun w hw=>h.no w (by rw[ad]at hw;exact hw)⟩;rw[nB]at hw;rw[ad];by_cases ew:w=v
    ·subst ew;rw[if_pos rfl]at hw;cases hw;refine⟨⟨bM,by omega,gg⟩,by rw[uh,a4],⟨fun aK=>absurd (a5.1 aK) e,fun ab=>?_⟩⟩;have:u=w:=by omega
     exact absurd this e
    ·rw[if_neg ew]at hw;exact h.up w y hw
   have afM:iZ (eX v x m) v=x:=by simp[iZ,nB]
   rw[afM];obtain⟨m',bQ,cp,ds⟩:=Xb n (eX v x m) x ma (by rw[ad];exact gg) (by omega);exact⟨m',by rw[bQ,uh,a4],cp,by rw[ds,ad]⟩
structure iK (ρ:Int→Int) (c cf:bo):Prop where
 ru:jE cf.up ρ
 keys:cl cf.up=cl c.up
 eq:cf={c with up:=cf.up}
theorem iK.refl{ρ:Int→Int}{c:bo}(h:jE c.up ρ):iK ρ c c:=⟨h,rfl,rfl⟩
theorem iK.trans{ρ:Int→Int}{a b c:bo}(h:iK ρ a b)(k:iK ρ b c):iK ρ a c:=⟨k.ru,k.keys.trans h.keys,by rw[k.eq,h.eq]⟩
theorem iK.shd{ρ:Int→Int}{c cf:bo}(h:iK ρ c cf)(x:Int):cf.shd x=c.shd x:=by rw[h.eq];rfl
theorem iK.shp{ρ:Int→Int}{c cf:bo}(h:iK ρ c cf)(x:Int):cf.shp x=c.shp x:=by rw[h.eq];rfl
theorem tK{ρ:Int→Int}{c:bo}{v:Int}(h:jE c.up ρ)(aI:v∈cl c.up):∃cf,rt c v=some (ρ v,cf)∧iK ρ c cf:=by
 have bk:zf v c.up=c.up:=by simp[zf,H0.2 aI]
 obtain⟨m',J,U,ao⟩:=Xb (v.toNat+1) c.up v h aI (by omega);exact⟨{c with up:=m'},by simp[rt,bk,J],⟨U,ao,rfl⟩⟩
theorem akS{ρ:Int→Int}{c:bo}{v:Int}(h:jE c.up ρ)(bD:0≤v)(aI:v∉cl c.up):rt c v=some (v,{c with up:=eX v v c.up})∧jE (eX v v c.up) ρ∧cl (eX v v c.up)=cl c.up++[v]:=by
 have au:=alM.2 aI;have ad:=Uo (v:=v) aI;refine⟨?_,⟨fun w u hw=>?_,fun w hw=>h.no w fun hm=>hw (by rw[ad];simp[hm])⟩,ad⟩
 ·simp[rt,zf,au,wY,iZ,nB]
 ·rw[nB]at hw;rw[ad];by_cases e:w=v
  ·subst e;rw[if_pos rfl]at hw;cases hw;exact⟨⟨bD,by omega,by simp⟩,rfl,⟨fun _=>rfl,fun _=>h.no _ aI⟩⟩
  ·rw[if_neg e]at hw;obtain⟨⟨bt,a2,a3⟩,a4⟩:=h.up w u hw;exact⟨⟨bt,a2,by simp[a3]⟩,a4⟩
def bo.ph(c:bo)(x:Int):Option T:=if c.shd x then some (c.shp x)else none
theorem iK.ph{ρ:Int→Int}{c cf:bo}(h:iK ρ c cf):cf.ph=c.ph:=by funext x;simp only[bo.ph,h.shd,h.shp]
def j5(ph:Int→Option T)(ρ:Int→Int)(θ:Int→T):Prop:=(∀v,θ v=θ (ρ v))∧∀x t,ρ x=x→ph x=some t→θ x=t.ap θ
def jb(ph:Int→Option T)(ρ:Int→Int)(z u:Int):Prop:=ρ z=z∧∃t w,ph z=some t∧t.occ w=true∧ρ w=u
inductive mS (E:Int→Int→Prop):Int→Int→Prop
 |refl (a:Int):mS E a a
 |step {a b c:Int}:E a b→mS E b c→mS E a c
def oh(V:List Int)(ph:Int→Option T):Prop:= ∀x t,ph x=some t→t.kind≠1∧(∀w,t.occ w=true→w∈V)∧x∈V
def H8(V:List Int)(ph:Int→Option T)(seen:List (Int×Bool)):Nat:=(V.filter fun v=>(ph v).isSome&& !((tg v seen).getD false)).length
def mD(seen:List (Int×Bool))(z:Int):Prop:=(tg z seen).getD false=true
structure YT (V:List Int) (ph:Int→Option T) (ρ:Int→Int) (x:Int) (occ:Int→Prop) (a be:ua):Prop where
 sm:iK ρ a.c be.c
 sub:∀z,mD a.seen z→mD be.seen z
 yes:be.found=true→a.found=true∨ ∃w,occ w∧mS (jb ph ρ) (ρ w) x
 kept:a.found=true→be.found=true
 no:be.found=false→(∀w,occ w→ρ w≠x∧((ph (ρ w)).isSome=true→mD be.seen (ρ w)))∧∀r,mD be.seen r→¬mD a.seen r→∀u,jb ph ρ r u→u≠x∧((ph u).isSome=true→mD be.seen u)
theorem Fq{α:Type}{p q:α→Bool}:∀{V:List α},(∀x∈V,q x=true→p x=true)→(V.filter q).length≤(V.filter p).length
 |[],_=>by simp
 |y::V,h=>by have:=Fq (p:=p) (q:=q) (V:=V) fun x ab=>h x (by simp[ab]);have aD:=h y (by simp);simp only[List.filter_cons];cases e:q y<;>cases ax:p y<;>simp_all<;>omega
theorem Fs{α:Type}{p q:α→Bool}{v:α}:∀{V:List α},(∀x∈V,q x=true→p x=true)→v∈V→p v=true→q v=false→(V.filter q).length<(V.filter p).length
 |[],_,h,_,_=>by simp at h
 |x::V,h,aI,bB,bu=>by
  have hle:=Fq (p:=p) (q:=q) (V:=V) fun x ab=>h x (lA _ ab);simp only[List.filter_cons];rcases fA.1 aI with rfl|aI
  ·simp[bB,bu];omega
  ·have:=Fs (fun x ab=>h x (lA _ ab)) aI bB bu;have ab:=h x (by simp);cases e:q x<;>cases ax:p x<;>simp_all<;>omega
theorem alU{V:List Int}{ph:Int→Option T}{s s':List (Int×Bool)}(h:∀z,mD s z→mD s' z):H8 V ph s'≤H8 V ph s:=
 Fq fun x _ ab=>by
  simp only[cx,rk]at ab⊢;refine⟨ab.1,?_⟩;cases e:(tg x s).getD false with
  |false=>rfl
  |true=>have:=h x e;unfold mD at this;rw[ab.2]at this;cases this
theorem Le{s:List (Int×Bool)}{r z:Int}:mD (eX r true s) z↔z=r∨mD s z:=by unfold mD;rw[nB];by_cases h:z=r<;>simp[h]
theorem akJ{V:List Int}{ph:Int→Option T}{ρ:Int→Int}{x:Int}(gI:oh V ph)(k:Nat):∀(t:T) (a:ua),jE a.c.up ρ→cl a.c.up=V→a.c.ph=ph→(∀w,t.occ w=true→w∈V)→H8 V ph a.seen≤k→
  ∃N be,(∀n,N≤n→t.foldO (wX (pE n x) x) a=some be)∧YT V ph ρ x (fun w=>t.occ w=true) a be:=by
 induction k using qw with
 |ind k Ld=>
 intro t;induction t with
 |var v=>
  intro a ma ad jv aL CV;obtain⟨bQ,J,U⟩:=tK ma (by rw[ad];exact aL v (by simp[T.occ]));have kB:bQ.shd (ρ v)=(ph (ρ v)).isSome:=by rw[U.shd,←jv];simp only[bo.ph];split<;>simp_all
  by_cases aO:a.found=true∨ρ v=x
  ·refine⟨0,⟨bQ,a.seen,true⟩,fun n _=>by simp[T.foldO,wX,J,aO],U,fun z aY=>aY,fun _=>?_,fun _=>rfl,fun h=>by cases h⟩;rcases aO with aO|aO
   ·exact .inl aO
   ·exact .inr ⟨v,by simp[T.occ],by rw[aO];exact .refl _⟩
  ·by_cases af:(tg (ρ v) a.seen).getD false=false∧bQ.shd (ρ v)=true
   ·have F2:ph (ρ v)=some (bQ.shp (ρ v)):=by rw[←jv];simp only[bo.ph,U.shp];rw[if_pos (by rw[←U.shd];exact af.2)]
    obtain⟨g1,g2,g3⟩:=gI _ _ F2;have bm:H8 V ph (eX (ρ v) true a.seen)<k:=by
     refine Nat.lt_of_lt_of_le (Fs (v:=ρ v) (fun z _ aY=>?_) g3 ?_ ?_) CV
     ·simp only[cx,rk]at aY⊢;refine⟨aY.1,?_⟩;rw[nB]at aY;by_cases e:z=ρ v
      ·subst e;exact af.1
      ·rw[if_neg e]at aY;exact aY.2
     ·simp[F2,af.1]
     ·simp[nB]
    obtain⟨N,be,ai,cC⟩:=Ld _ bm (bQ.shp (ρ v)) ⟨bQ,eX (ρ v) true a.seen,false⟩ U.ru (by rw[U.keys];exact ad) (by rw[U.ph];exact jv) g2 (ff _);refine⟨N+1,be,fun n au=>?_,U.trans cC.sm,fun z aY=>cC.sub z (Le.2 (.inr aY)),fun aD=>?_,fun h=>absurd (.inl h) aO,fun dd=>?_⟩
    ·obtain⟨n',rfl⟩:∃n',n=n'+1:=⟨n-1,by omega⟩;simp only[T.foldO,wX,J,e6,if_neg aO,if_pos af,pE];exact ai n' (by omega)
    ·rcases cC.yes aD with h|⟨w,aV,bf⟩
     ·cases h
     ·exact .inr ⟨v,by simp[T.occ],.step ⟨by rw[jE.idem ma],_,w,F2,aV,rfl⟩ bf⟩
    ·obtain⟨aV,bf⟩:=cC.no dd;have jf:mD be.seen (ρ v):=cC.sub _ (Le.2 (.inl rfl));refine⟨fun w hw=>?_,fun r aK c7 u hu=>?_⟩
     ·simp[T.occ]at hw;subst hw;exact⟨fun e=>aO (.inr e),fun _=>jf⟩
     ·by_cases qL:r=ρ v
      ·subst qL;obtain⟨_,dF,w,k7,z2,rfl⟩:=hu;rw[F2]at k7;cases k7;exact aV w z2
      ·exact bf r aK (fun h=>(Le.1 h).elim qL c7) u hu
   ·have Cz:a.found=false:=by cases e:a.found with
     |false=>rfl
     |true=>exact absurd (.inl e) aO
    refine⟨0,⟨bQ,a.seen,a.found⟩,fun n _=>by simp only[T.foldO,wX,J,e6,if_neg aO,if_neg af],U,fun z aY=>aY,fun h=>.inl h,fun h=>h,fun _=>⟨fun w hw=>?_,fun r J U=>absurd J U⟩⟩;simp[T.occ]at hw;subst hw;refine⟨fun e=>aO (.inr e),fun bB=>?_⟩;unfold mD;cases e:(tg (ρ v) a.seen).getD false with
    |true=>rfl
    |false=>exact absurd ⟨e,by rw[kB];exact bB⟩ af
 |pair p q af9 aga=>
  intro a ma ad jv aL CV;obtain⟨hM,bt,ai,cC⟩:=af9 a ma ad jv (fun w hw=>aL w (by simp[T.occ,hw])) CV;obtain⟨jd,a2,ax,da⟩:=aga bt cC.sm.ru (by rw[cC.sm.keys];exact ad) (by rw[cC.sm.ph];exact jv) (fun w hw=>aL w (by simp[T.occ,hw])) (jR (alU cC.sub) CV);refine⟨max hM jd,a2,fun n au=>by simp only[T.foldO];rw[ai n (by omega)];exact ax n (by omega),cC.sm.trans da.sm,fun z aY=>da.sub z (cC.sub z aY),fun aD=>?_,fun h=>da.kept (cC.kept h),fun dd=>?_⟩
  ·rcases da.yes aD with h|⟨w,aV,bf⟩
   ·rcases cC.yes h with h|⟨w,aV,bf⟩
    ·exact .inl h
    ·exact .inr ⟨w,by simp[T.occ,aV],bf⟩
   ·exact .inr ⟨w,by simp[T.occ,aV],bf⟩
  ·have ad2:bt.found=false:=by cases e:bt.found with
    |false=>rfl
    |true=>have:=da.kept e;rw[dd]at this;cases this
   obtain⟨ev,e2⟩:=cC.no ad2;obtain⟨s1,s2⟩:=da.no dd;refine⟨fun w hw=>?_,fun r aK c7 u hu=>?_⟩
   ·simp only[T.occ,lY]at hw;rcases hw with hw|hw
    ·exact⟨(ev w hw).1,fun h=>da.sub _ ((ev w hw).2 h)⟩
    ·exact s1 w hw
   ·by_cases h:mD bt.seen r
    ·exact⟨(e2 r h c7 u hu).1,fun cU=>da.sub _ ((e2 r h c7 u hu).2 cU)⟩
    ·exact s2 r aK h u hu
 |_=>intro a ma ad jv aL CV;exact⟨0,a,fun n _=>rfl,iK.refl ma,fun z aY=>aY,fun h=>.inl h,fun h=>h,fun _=>⟨fun w hw=>by simp[T.occ]at hw,fun r J U=>absurd J U⟩⟩
theorem Hq{ρ:Int→Int}{x:Int}{c:bo}{t:T}(ma:jE c.up ρ)(gI:oh (cl c.up) c.ph)(aL:∀w,t.occ w=true→w∈cl c.up):
  ∃N a,(∀n,N≤n→pE n x t c []=some a)∧iK ρ c a.c∧(a.found=true↔∃w,t.occ w=true∧mS (jb c.ph ρ) (ρ w) x):=by
 obtain⟨N,a,J,U⟩:=akJ (x:=x) gI _ t ⟨c,[],false⟩ ma rfl rfl aL (ff _);refine⟨N+1,a,fun n au=>?_,U.sm,fun h=>?_,fun⟨w,hw,aK⟩=>?_⟩
 ·obtain⟨n',rfl⟩:∃n',n=n'+1:=⟨n-1,by omega⟩;exact J n' (by omega)
 ·rcases U.yes h with h|h
  ·cases h
  ·exact h
 ·cases e:a.found with
  |true=>rfl
  |false=>
   obtain⟨aV,bf⟩:=U.no e;have key:∀z,mS (jb c.ph ρ) z x→z≠x→((c.ph z).isSome=true→mD a.seen z)→ep:=by
    have:∀z y,mS (jb c.ph ρ) z y→y=x→z≠x→((c.ph z).isSome=true→mD a.seen z)→ep:=by
     intro z y aD;induction aD with
     |refl z=>intro h cr;exact absurd h cr
     | @step z b cf he _ bP=>intro ab cD jf;obtain⟨_,dF,w',k7,_,_⟩:=id he;have af:=jf (by simp[k7]);obtain⟨g1,g2⟩:=bf z af (by simp[mD,tg]) b he;exact bP ab g1 g2
    exact fun z aY=>this z x aY rfl
   exact(key _ aK (aV w hw).1 (aV w hw).2).elim
end Go.Pv
