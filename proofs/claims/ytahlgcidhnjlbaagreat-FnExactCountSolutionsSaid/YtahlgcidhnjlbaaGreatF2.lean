/- The most general unifier within the limits. -/
import Derived.Deep.LoopGhost
import Derived.Test.YtahlgcidhnjlbaaGreatF1
set_option linter.all false
set_option maxHeartbeats 4000000
open Array renaming getElem?_toList→tL
open Bool renaming and_eq_true→cC,false_eq_true→gX,or_eq_true→lX
open Decidable renaming not_not→atF
open Go renaming Program→cE,TypeId→fZ
open Go.IntKind renaming bits→od,i64→pQ,signed→sr,u64→hl,wrap→ss
open Go.IntWalk renaming i64_in→oe
open Go.Op renaming bytesLess→hv
open Go.Region renaming wanted→o4
open Go.Result renaming andThen_ok→fL
open Go.Sem renaming run_bind→fH,run_pure→gy
open Go.Value renaming cells→pR
open List renaming all_eq_true→gn,cons_append→bX,drop_eq_getElem_cons→kP,getElem?_eq_getElem→bZ,getElem?_eq_none→qt,getElem?_eq_some_iff→e1,length_append→o5,length_cons→o6,length_map→rj,map_cons→gO,mem_append→kQ,mem_cons→fR,mem_cons_of_mem→pS,mem_filter→nH,mem_map→h5,nil_append→b2,pairwise_cons→mR,pairwise_iff_getElem→o7
open List.Nodup renaming length_le_of_subset→NP
open List.Pairwise renaming imp_of_mem→aom,nil→atM
open List.Perm renaming eq_of_pairwise→NQ
open List.cons renaming injEq→qs
open Nat renaming le_refl→eR,le_trans→jT
open Ne renaming symm→k6
open Option renaming bind_some→k7,getD_none→nI,getD_some→ka,isSome_iff_exists→fM,isSome_none→ml,map_eq_some_iff→gz,map_some→oh
open Option.some renaming inj→eE,injEq→dL
open Prod.mk renaming injEq→jy
open _root_ renaming False→eQ,Option→aZ,UInt8→dE,beq_iff_eq→dQ,congrArg→eB,decide_eq_false→iB,decide_eq_false_iff_not→gI,decide_eq_true_eq→e2
namespace Go.Pv
open Go Go.RowKit
def ahV(A:dh)(s ai:cK)(rm:aZ aI):Prop:=(∀k,(look k ai.b).isSome→(look k s.b).isSome∨rm=some k)∧(∀k,(look k ai.e).isSome→(look k s.e).isSome∨rm=some k)∧(∀k,(look k s.b).isSome→(look k ai.b).isSome)∧(∀k,(look k s.e).isSome→(look k ai.e).isSome)∧
 (∀k,rm=some k→(∃j,k= .obj j)∧A.F k∧A.b k=none∧A.e k=none∧((look k ai.b).isSome∨(look k ai.e).isSome))
def Yx(P:cE)(n:Nat)(args:List ah)(A:dh)(d:aZ Nat)(x:kR):Prop:=
 ∃s ai r rm,(∀k cs,look k s.b=some cs→A.b k=some cs∧aH (inObs s) cs)∧(∀k o,look k s.e=some o→A.e k=some o∧dN (inObs s) o)∧iQ s∧iQ ai∧ahV A s ai rm∧aH (inObs s) args∧
  bU P n args s (fun eF dO=>eF=r∧dO=ai)∧x=⟨d,r,ai.b,ai.e,rm⟩
def Yy(P:cE)(n0 n:Nat)(args:List ah)(A:dh)(d:aZ Nat)(x:kR):Prop:=
 ∃cG r,d=some cG∧(A.F (.loc (n0+cG))∧A.b (.loc (n0+cG))=none∧A.e (.loc (n0+cG))=none)∧aH (fun _=>eQ) args∧
  HX P n (n0+cG) args ⟨[],[]⟩ (fun eF dO=>eF=r∧dO=⟨[],[]⟩)∧x=⟨d,r,[],[],some (.loc (n0+cG))⟩
def yc:ah→Bool
 | .ptr (.loc _) _=>true
 | .eptr _=>true
 |_=>false
def fS.isB:fS→Bool
 | .loadB _ _ _=>true
 | .mgetB _ _ _ _ _=>true
 |_=>false
def fS.ptrOf(t:Nat→ah):fS→ah
 | .load _ _ x=>dy t x
 | .loadB _ _ x=>dy t x
 |_=>.junk
def et(P:cE)(q:Bool)(n0:Nat):ei→dh→kR→Prop
 | .s (.v d i),A,x=> ∃c p,pO A.t A.b A.e i=some (c,p)∧c∧(i.isLoad=true→i.isB=true∨q=true∨yc (i.ptrOf A.t)=true)∧x=⟨some d,p,[],[],none⟩
 | .s (.box d none v),A,x=>(A.F (.loc (n0+d))∧A.b (.loc (n0+d))=none∧A.e (.loc (n0+d))=none)∧ec (dy A.t v)=true∧x=⟨some d,.ptr (.loc (n0+d)) 0,[(.loc (n0+d),cells (dy A.t v))],[],some (.loc (n0+d))⟩
 | .s (.alloc d none z),A,x=>(A.F (.loc (n0+d))∧A.b (.loc (n0+d))=none∧A.e (.loc (n0+d))=none)∧x=⟨some d,.ptr (.loc (n0+d)) 0,[(.loc (n0+d),cells z)],[],some (.loc (n0+d))⟩
 | .s (.store sz u v),A,x=> ∃k off cs,dy A.t u= .ptr k off∧A.b k=some cs∧(hU cs=true∧ec (dy A.t v)=true∧(cells (dy A.t v)).length=sz∧off+sz≤cs.length)∧x=⟨none,.junk,[(k,n3 cs off (cells (dy A.t v)))],[],none⟩
 | .s (.bsl d sz el xs),A,x=>(A.F (.loc (n0+d))∧A.b (.loc (n0+d))=none∧A.e (.loc (n0+d))=none)∧sD sz (xs.map (dy A.t))∧x=⟨some d,.slice sz (.own (.loc (n0+d))) (xs.map (dy A.t)),[],[(.loc (n0+d),⟨xs.length,el,sz,none⟩)],some (.loc (n0+d))⟩
 | .s (.app d sz el u v),A,x=> ∃tag xs k1 ys,dy A.t u= .slice sz tag xs∧dy A.t v= .slice sz k1 ys∧
   ((∃k o,tag= .own k∧A.e k=some o∧(o.xs=none∧o.n=xs.length∧o.el=el∧o.sz=sz∧xs.length+ys.length≤lim)∧x=⟨some d,.slice sz (.own k) (xs++ys),[],[(k,⟨xs.length+ys.length,el,sz,none⟩)],none⟩)∨
    (tag= .nil∧ys.length≤lim∧(A.F (.loc (n0+d))∧A.b (.loc (n0+d))=none∧A.e (.loc (n0+d))=none)∧x=⟨some d,.slice sz (.own (.loc (n0+d))) ys,[],[(.loc (n0+d),⟨ys.length,el,sz,none⟩)],some (.loc (n0+d))⟩))
 | .s (.appm d _ sz el u v),A,x=> ∃k n xs k1 ys,dy A.t u= .row sz k n∧dy A.t v= .slice sz k1 ys∧A.e k=some ⟨n,el,sz,some xs⟩∧xs.length+ys.length≤lim∧x=⟨some d,.row sz k (xs.length+ys.length),[],[(k,⟨xs.length+ys.length,el,sz,some (xs++ys)⟩)],none⟩
 | .s (.storeE sz u v),A,x=> ∃k n i f el dI xs q,dy A.t u= .rptr dI k n i f∧A.e k=some ⟨n,el,dI,some xs⟩∧xs[i]? =some q∧(ec q=true∧ec (dy A.t v)=true∧(cells (dy A.t v)).length=sz∧f+sz≤(cells q).length∧0<sz)∧x=⟨none,.junk,[],[(k,⟨n,el,dI,some (xs.set i (mN q f (cells (dy A.t v))))⟩)],none⟩
 | .s (.mkmap d (some m)),A,x=>(A.F (.obj m)∧A.b (.obj m)=none∧A.e (.obj m)=none)∧x=⟨some d,.gmap (.obj m),[(.obj m,[.hdm 0 []])],[],some (.obj m)⟩
 | .s (.mput ch u k v),A,x=> ∃m cs cs',dy A.t u= .gmap m∧A.b m=some cs∧oO ch (dy A.t k) (dy A.t v) cs=some cs'∧x=⟨none,.junk,[(m,cs')],[],none⟩
 | .call d f xs,A,x=> ∃n dj,dy A.t f= .func n dj∧((Yx P n (cR (xs.map (dy A.t)++dj)) A d x∧(q=true→x.bw=[]∧x.ew=[]))∨Yy P n0 n (cR (xs.map (dy A.t)++dj)) A d x)
 |_,_,_=>eQ
inductive Br where
 |v|l|n|s|w|a|c|m|r|k
 deriving DecidableEq
def ei.mode:ei→Br
 | .s (.v _ (.loadB _ _ _))=>.m
 | .s (.v _ (.mgetB _ _ _ _ _))=>.m
 | .s (.v _ i)=>if i.isLoad then .l else .v
 | .s (.storeE _ _ _)=>.r
 | .s (.box _ _ _)=>.n
 | .s (.alloc _ _ _)=>.n
 | .s (.store _ _ _)=>.w
 | .s (.bsl _ _ _ _)=>.s
 | .s (.app _ _ _ _ _)=>.a
 | .s (.bslm _ _ _ _ _)=>.w
 | .s (.mks _ _ _ _ _ _)=>.w
 | .s (.appm _ _ _ _ _ _)=>.r
 | .s (.mkmap _ _)=>.k
 | .s (.mput _ _ _ _)=>.w
 | .s (.range _ _ _)=>.w
 | .call _ _ _=>.c
 | .next _ _=>.w
structure H9 (q:Bool) (n0:Nat) (m:Br) (dst:aZ Nat) (A:dh) (x:kR):Prop where
 d:x.d=dst
 b:∀k,(look k x.bw).isSome→(m= .n∧∃d,dst=some d∧k= .loc (n0+d)∧A.b k=none∧A.e k=none)∨m= .w∨(m= .c∧(∃j,k= .obj j)∧q=false)∨(m= .k∧(∃j,k= .obj j)∧A.b k=none∧A.e k=none)
 e:∀k,(look k x.ew).isSome→(m= .s∧∃d,dst=some d∧k= .loc (n0+d)∧A.b k=none∧A.e k=none)∨(m= .a∧(A.e k≠none∨ ∃d,dst=some d∧k= .loc (n0+d)∧A.b k=none∧A.e k=none))∨(m= .c∧(∃j,k= .obj j)∧q=false)∨(m= .r∧∃o,A.e k=some o∧o.xs≠none)
 r:∀k,x.rm=some k→(∃d,dst=some d∧k= .loc (n0+d))∨((m= .c∨m= .k)∧(∃j,k= .obj j)∧((look k x.bw).isSome∨(look k x.ew).isSome))
 ex:m= .a→∀k o,(look k x.ew).isSome→A.e k=some o→o.xs=none
 xn:m= .a∨m= .s→∀k o,look k x.ew=some o→o.xs=none
theorem ti{α:Type}{k bS:aI}{x:α}(h:(look k [(bS,x)]).isSome):k=bS:=by
 simp only[look]at h;split at h
 ·rename_i e;exact e.symm
 ·cases h
theorem Ld{k bS:aI}{n el sz:Nat}{o:fN}(h:look k [(bS,(⟨n,el,sz,none⟩:fN))]=some o):o.xs=none:=by
 simp only[look]at h;split at h
 ·cases h;rfl
 ·cases h
theorem Xu{P:cE}{q:Bool}{n0:Nat}{i:ei}{A:dh}{x:kR}(h:et P q n0 i A x):H9 q n0 i.mode i.dst A x:=by
 cases i with
 |s i=>
  cases i with
  |v d i=>simp only[et]at h;obtain⟨c,p,_,_,_,rfl⟩:=h;exact⟨rfl,fun k ab=>by simp[look]at ab,fun k ab=>by simp[look]at ab,fun k ab=>by simp at ab,fun _ k o ab=>by simp[look]at ab,fun _ k o ab=>by simp[look]at ab⟩
  |box d key v=>
   cases key with
   |some m=>simp only[et]at h
   |none=>simp only[et]at h;obtain⟨⟨_,U,ar⟩,_,rfl⟩:=h;exact⟨rfl,fun k ab=>by obtain rfl:=ti ab;exact .inl ⟨rfl,d,rfl,rfl,U,ar⟩,fun k ab=>by simp[look]at ab,fun k ab=>by simp at ab;exact .inl ⟨d,rfl,ab.symm⟩,fun _ k o ab=>by simp[look]at ab,fun _ k o ab=>by simp[look]at ab⟩
  |alloc d key z=>
   cases key with
   |some m=>simp only[et]at h
   |none=>simp only[et]at h;obtain⟨⟨_,U,ar⟩,rfl⟩:=h;exact⟨rfl,fun k ab=>by obtain rfl:=ti ab;exact .inl ⟨rfl,d,rfl,rfl,U,ar⟩,fun k ab=>by simp[look]at ab,fun k ab=>by simp at ab;exact .inl ⟨d,rfl,ab.symm⟩,fun _ k o ab=>by simp[look]at ab,fun _ k o ab=>by simp[look]at ab⟩
  |store sz u v=>simp only[et]at h;obtain⟨k,off,cs,_,_,_,rfl⟩:=h;exact⟨rfl,fun k ab=>.inr (.inl rfl),fun k ab=>by simp[look]at ab,fun k ab=>by simp at ab,fun _ k o ab=>by simp[look]at ab,fun _ k o ab=>by simp[look]at ab⟩
  |bsl d sz el xs=>simp only[et]at h;obtain⟨⟨_,U,ar⟩,_,rfl⟩:=h;exact⟨rfl,fun k ab=>by simp[look]at ab,fun k ab=>by obtain rfl:=ti ab;exact .inl ⟨rfl,d,rfl,rfl,U,ar⟩,fun k ab=>by simp at ab;exact .inl ⟨d,rfl,ab.symm⟩,fun e=>by simp[ei.mode]at e,fun _ k o ab=>Ld ab⟩
  |app d sz el u v=>
   simp only[et]at h;obtain⟨tag,xs,k1,ys,_,_,h⟩:=h;rcases h with⟨k,o,_,J,⟨ij,_⟩,rfl⟩|⟨_,_,⟨_,U,ar⟩,rfl⟩
   ·exact⟨rfl,fun k ab=>by simp[look]at ab,fun k ab=>by obtain rfl:=ti ab;exact .inr (.inl ⟨rfl,.inl (by rw[J];simp)⟩),fun k ab=>by simp at ab,fun _ bS o' ab ax=>by obtain rfl:=ti ab;rw[J]at ax;cases ax;exact ij,fun _ k o ab=>Ld ab⟩
   ·exact⟨rfl,fun k ab=>by simp[look]at ab,fun k ab=>by obtain rfl:=ti ab;exact .inr (.inl ⟨rfl,.inr ⟨d,rfl,rfl,U,ar⟩⟩),fun k ab=>by simp at ab;exact .inl ⟨d,rfl,ab.symm⟩,fun _ bS o' ab ax=>(by obtain rfl:=ti ab;rw[ar]at ax;cases ax),fun _ k o ab=>Ld ab⟩
  |bslm d key sz el xs=>simp only[et]at h
  |mks d key sz el z x=>simp only[et]at h
  |appm d key sz el u v=>simp only[et]at h;obtain⟨k,n,xs,k1,ys,_,_,J,_,rfl⟩:=h;exact⟨rfl,fun k ab=>by simp[look]at ab,fun k ab=>by obtain rfl:=ti ab;exact .inr (.inr (.inr ⟨rfl,_,J,by simp⟩)),fun k ab=>by simp at ab,fun e=>by simp[ei.mode]at e,fun e=>by simp[ei.mode]at e⟩
  |storeE sz u v=>simp only[et]at h;obtain⟨k,n,i,f,el,dI,xs,q,_,J,_,_,rfl⟩:=h;exact⟨rfl,fun k ab=>by simp[look]at ab,fun k ab=>by obtain rfl:=ti ab;exact .inr (.inr (.inr ⟨rfl,_,J,by simp⟩)),fun k ab=>by simp at ab,fun e=>by simp[ei.mode]at e,fun e=>by simp[ei.mode]at e⟩
  |mkmap d key=>
   cases key with
   |none=>simp only[et]at h
   |some m=>simp only[et]at h;obtain⟨⟨_,U,ar⟩,rfl⟩:=h;exact⟨rfl,fun k ab=>by obtain rfl:=ti ab;exact .inr (.inr (.inr ⟨rfl,⟨m,rfl⟩,U,ar⟩)),fun k ab=>by simp[look]at ab,fun k ab=>by simp at ab;subst ab;exact .inr ⟨.inr rfl,⟨m,rfl⟩,.inl (by simp[look])⟩,fun e=>by simp[ei.mode]at e,fun e=>by simp[ei.mode]at e⟩
  |mput ch x k v=>simp only[et]at h;obtain⟨m,cs,cs',_,_,_,rfl⟩:=h;exact⟨rfl,fun k ab=>.inr (.inl rfl),fun k ab=>by simp[look]at ab,fun k ab=>by simp at ab,fun e=>by simp[ei.mode]at e,fun e=>by simp[ei.mode]at e⟩
  |range d key x=>simp only[et]at h
 |next d x=>simp only[et]at h
 |call d f xs=>
  simp only[et]at h;obtain⟨n,dj,_,h⟩:=h;rcases h with⟨⟨s,ai,r,rm,_,_,_,ax,SZ,_,_,rfl⟩,bo⟩|⟨cG,r,rfl,_,_,_,rfl⟩;rotate_left
  ·exact⟨rfl,fun k ab=>by simp[look]at ab,fun k ab=>by simp[look]at ab,fun k ab=>by simp at ab;exact .inl ⟨cG,rfl,ab.symm⟩,fun _ k o ab=>by simp[look]at ab,fun _ k o ab=>by simp[look]at ab⟩
  refine⟨rfl,fun k ab=>.inr (.inr (.inl ⟨rfl,?_,?_⟩)),fun k ab=>.inr (.inr (.inl ⟨rfl,?_,?_⟩)),fun k ab=>.inr ⟨.inl rfl,(SZ.2.2.2.2 k ab).1,(SZ.2.2.2.2 k ab).2.2.2.2⟩,fun e=>by simp[ei.mode]at e,fun e=>by simp[ei.mode]at e⟩
  ·cases k with
   |loc m=>rw[ax.1 m]at ab;cases ab
   |obj m=>exact⟨m,rfl⟩
  ·cases q with
   |false=>rfl
   |true=>rw[(bo rfl).1]at ab;simp[look]at ab
  ·cases k with
   |loc m=>rw[ax.2 m]at ab;cases ab
   |obj m=>exact⟨m,rfl⟩
  ·cases q with
   |false=>rfl
   |true=>rw[(bo rfl).2]at ab;simp[look]at ab
theorem NT{P:cE}{q:Bool}{n0:Nat}{i:ei}{A gj:dh}{x:kR}(h:et P q n0 i A x)(aK:qC i.looks A.t gj.t)
  (aw:i.mode= .l→∀k,(q=true∨ ∃m,k= .loc m)→A.b k≠none→gj.b k=A.b k) (SP:i.mode= .m→∀k,A.b k≠none→gj.b k=A.b k)
  (lf:i.mode= .l→q=true→∀k o,A.e k=some o→o.xs≠none→gj.e k=some o)
  (ay:∀d,i.dst=some d→(i.mode= .n∨i.mode= .s∨i.mode= .a∨i.mode= .c)→(A.F (.loc (n0+d))∧A.b (.loc (n0+d))=none∧A.e (.loc (n0+d))=none)→(gj.F (.loc (n0+d))∧gj.b (.loc (n0+d))=none∧gj.e (.loc (n0+d))=none))
  (bz:i.mode= .a→∀k o,A.e k=some o→gj.e k=some o) (hw:i.mode= .w→∀k,gj.b k=A.b k) (aga:i.mode= .k→∀m,(A.F (.obj m)∧A.b (.obj m)=none∧A.e (.obj m)=none)→(gj.F (.obj m)∧gj.b (.obj m)=none∧gj.e (.obj m)=none)) (CE:i.mode= .r→∀k o,A.e k=some o→o.xs≠none→gj.e k=some o)
  (au:i.mode= .c→∀m,gj.b (.obj m)=A.b (.obj m)∧gj.e (.obj m)=A.e (.obj m)∧(A.F (.obj m)→gj.F (.obj m))):et P q n0 i gj x:=by
 cases i with
 |s i=>
  cases i with
  |v d i=>
   simp only[et]at h⊢;obtain⟨c,p,J,U,ar,ba⟩:=h;by_cases jD:∃agg sz y,i= .loadB agg sz y
   ·obtain⟨agg,sz,y,rfl⟩:=jD;simp only[ei.looks,eo.looks,fS.looks]at aK;have uw:=gu aK;refine⟨c,p,?_,U,fun _=>.inl rfl,ba⟩;rw[←J];simp only[pO,←uw];have hm:=SP (by simp[ei.mode]);simp only[pO]at J;cases bG:dy A.t y<;>simp only[rY];rename_i key off;rw[bG]at J;simp only[rY]at J;cases ad:A.b key with
    |none=>simp[ad]at J
    |some cs=>have:gj.b key=A.b key:=hm key (by rw[ad];simp);rw[this,ad]
   by_cases Fp:∃ch zero ok y z,i= .mgetB ch zero ok y z
   ·obtain⟨ch,zero,ok,y,z,rfl⟩:=Fp;simp only[ei.looks,eo.looks,fS.looks]at aK;obtain⟨t1,t2⟩:=kp aK;refine⟨c,p,?_,U,fun _=>.inl rfl,ba⟩;simp only[pO]at J⊢;rw[←gu t1,←gu t2];exact UN (SP (by simp[ei.mode])) J
   replace ar:i.isLoad=true→q=true∨yc (i.ptrOf A.t)=true:=fun nT=>(ar nT).resolve_left (fun ad=>by cases i<;>simp[fS.isB]at ad;exact jD ⟨_,_,_,rfl⟩;exact Fp ⟨_,_,_,_,_,rfl⟩);have afs:i.isLoad=true→(ei.s (.v d i)).mode= .l:=by intro nT;cases i<;>simp only[fS.isLoad]at nT<;>first|(cases nT;done)|(simp[ei.mode,fS.isLoad];done)|exact absurd ⟨_,_,_,rfl⟩ jD|exact absurd ⟨_,_,_,_,_,rfl⟩ Fp
   by_cases nT:i.isLoad=true
   ·have bo:∀(bG:yc (i.ptrOf A.t)=false),∀k,A.b k≠none→gj.b k=A.b k:=fun bG k ab=>aw (afs nT) k (.inl ((ar nT).resolve_right (by rw[bG];simp))) ab;cases i<;>simp only[fS.isLoad]at nT<;>try(cases nT;done)
    case mget ch zero ok y z=>simp only[ei.looks,eo.looks,fS.looks]at aK;obtain⟨t1,t2⟩:=kp aK;refine⟨c,p,?_,U,fun _=>.inr (ar rfl),ba⟩;simp only[pO]at J⊢;rw[←gu t1,←gu t2];exact UN (bo rfl) J
    case ment y=>simp only[ei.looks,eo.looks,fS.looks]at aK;refine⟨c,p,?_,U,fun _=>.inr (ar rfl),ba⟩;simp only[pO]at J⊢;rw[←gu aK];exact ahp (bo rfl) J
    case mlen y=>simp only[ei.looks,eo.looks,fS.looks]at aK;refine⟨c,p,?_,U,fun _=>.inr (ar rfl),ba⟩;simp only[pO]at J⊢;rw[←gu aK];exact ahK (bo rfl) J
    case loadB agg sz y=>exact absurd ⟨_,_,_,rfl⟩ jD
    case mgetB=>exact absurd ⟨_,_,_,_,_,rfl⟩ Fp
    rename_i agg sz y;simp only[ei.looks,eo.looks,fS.looks]at aK;have uw:=gu aK;refine⟨c,p,?_,U,fun _=>.inr (by have:=ar rfl;simpa only[fS.ptrOf,←uw]using this),ba⟩;rw[←J];simp only[pO,←uw];have hm:=aw (by simp[ei.mode,fS.isLoad]);simp only[pO]at J;have sN:=ar rfl;simp only[fS.ptrOf]at sN;cases bG:dy A.t y<;>simp only[rY]
    ·rename_i key off;rw[bG]at J sN;simp only[rY]at J;cases ad:A.b key with
     |none=>simp[ad]at J
     |some cs=>have:gj.b key=A.b key:=hm key (by rcases sN with h|h;exact .inl h;cases key;exact .inr ⟨_,rfl⟩;simp[yc]at h) (by rw[ad];simp);rw[this,ad]
    ·rename_i dI key n i f;rw[bG]at J sN;simp only[rY]at J;have afK:q=true:=sN.resolve_right (by simp[yc]);unfold yJ at J;split at J
     ·rename_i n' el jk xs he;rw[he,lf (by simp[ei.mode,fS.isLoad]) afK key _ he (by simp)]
     ·cases J
   ·have nT:i.isLoad=false:=by simpa using nT
    refine⟨c,p,?_,U,(fun e=>by rw[nT]at e;cases e),ba⟩;rw[←J];exact(amF (by simpa only[ei.looks,eo.looks]using aK) nT).symm
  |box d key v=>
   cases key with
   |some m=>simp only[et]at h
   |none=>simp only[et,ei.looks,eo.looks]at h aK⊢;obtain⟨J,U,ar⟩:=h;rw[←gu aK];exact⟨ay d rfl (.inl rfl) J,U,ar⟩
  |alloc d key z=>
   cases key with
   |some m=>simp only[et]at h
   |none=>simp only[et]at h⊢;exact⟨ay d rfl (.inl rfl) h.1,h.2⟩
  |store sz u v=>simp only[et,ei.looks,eo.looks]at h aK⊢;obtain⟨J,U⟩:=kp aK;rw[←gu J,←gu U];obtain⟨k,off,cs,g1,g2,g3,g4⟩:=h;exact⟨k,off,cs,g1,by rw[hw rfl];exact g2,g3,g4⟩
  |bsl d sz el xs=>simp only[et,ei.looks,eo.looks]at h aK⊢;rw[←Gu aK];exact⟨ay d rfl (.inr (.inl rfl)) h.1,h.2⟩
  |app d sz el u v=>
   simp only[et,ei.looks,eo.looks]at h aK⊢;obtain⟨J,U⟩:=kp aK;rw[←gu J,←gu U];obtain⟨tag,xs,k1,ys,g1,g2,h⟩:=h;refine⟨tag,xs,k1,ys,g1,g2,?_⟩;rcases h with⟨k,o,ak,aE,bj⟩|⟨ak,aE,bj,c2⟩
   ·exact .inl ⟨k,o,ak,bz rfl k o aE,bj⟩
   ·exact .inr ⟨ak,aE,ay d rfl (.inr (.inr (.inl rfl))) bj,c2⟩
  |bslm d key sz el xs=>simp only[et]at h
  |mks d key sz el z x=>simp only[et]at h
  |appm d key sz el u v=>simp only[et,ei.looks,eo.looks]at h aK⊢;obtain⟨J,U⟩:=kp aK;rw[←gu J,←gu U];obtain⟨k,n,xs,k1,ys,g1,g2,g3,g4,g5⟩:=h;exact⟨k,n,xs,k1,ys,g1,g2,CE rfl k _ g3 (by simp),g4,g5⟩
  |storeE sz u v=>simp only[et,ei.looks,eo.looks]at h aK⊢;obtain⟨J,U⟩:=kp aK;rw[←gu J,←gu U];obtain⟨k,n,i,f,el,dI,xs,q,g1,g2,g3⟩:=h;exact⟨k,n,i,f,el,dI,xs,q,g1,CE rfl k _ g2 (by simp),g3⟩
  |mkmap d key=>
   cases key with
   |none=>simp only[et]at h
   |some m=>simp only[et]at h⊢;exact⟨aga rfl m h.1,h.2⟩
  |mput ch u k v=>simp only[et,ei.looks,eo.looks]at h aK⊢;obtain⟨t1,t3⟩:=kp aK;obtain⟨t1,t2⟩:=kp t1;obtain⟨m,cs,cs',g1,g2,g3,g4⟩:=h;rw[←gu t1,←gu t2,←gu t3];exact⟨m,cs,cs',g1,by rw[hw rfl];exact g2,g3,g4⟩
  |range d key x=>simp only[et]at h
 |next d x=>simp only[et]at h
 |call d f xs=>
  simp only[et,ei.looks]at h aK⊢;obtain⟨J,U⟩:=kp aK;rw[←gu J,←Gu U];obtain⟨n,dj,g1,h⟩:=h;rcases h with⟨⟨s,ai,r,rm,bL,cp,dc,ix,l1,pg⟩,g3⟩|⟨cG,r,rfl,bL,cp⟩;rotate_left
  ·exact⟨n,dj,g1,.inr ⟨cG,r,rfl,ay cG rfl (.inr (.inr (.inr rfl))) bL,cp⟩⟩
  refine⟨n,dj,g1,.inl ⟨⟨s,ai,r,rm,fun k cs ab=>?_,fun k o ab=>?_,dc,ix,⟨l1.1,l1.2.1,l1.2.2.1,l1.2.2.2.1,fun k ab=>?_⟩,pg⟩,g3⟩⟩
  ·cases k with
   |loc m=>rw[dc.1 m]at ab;cases ab
   |obj m=>rw[(au rfl m).1];exact bL _ _ ab
  ·cases k with
   |loc m=>rw[dc.2 m]at ab;cases ab
   |obj m=>rw[(au rfl m).2.1];exact cp _ _ ab
  ·obtain⟨⟨j,rfl⟩,d2,d3,d4,d5⟩:=l1.2.2.2.2 k ab;exact⟨⟨j,rfl⟩,(au rfl j).2.2 d2,by rw[(au rfl j).1];exact d3,by rw[(au rfl j).2.1];exact d4,d5⟩
def lq(d:aZ Nat):kR:=⟨d,.tuple [],[],[],none⟩
def kS(P:cE)(q:Bool)(n0:Nat)(g:c6)(A:dh)(x:kR):Prop:=
 match g.g with
 |none=>et P q n0 g.i A x
 |some (s,w)=>match A.t s with
  | .bool b=>(b=w∧et P q n0 g.i A x)∨(b= !w∧x=lq g.i.dst)
  | .tuple []=>x=lq g.i.dst
  |_=>eQ
def e7:Br→Br→Bool
 | .v,_=>true
 |_,.v=>true
 | .l,.l| .l,.n| .l,.s| .l,.a| .l,.c=>true
 | .n,.n| .n,.s| .n,.a| .n,.c=>true
 | .s,.l| .s,.n| .s,.s| .s,.c=>true
 | .a,.l| .a,.n| .a,.s=>true
 | .c,.l| .c,.n| .c,.s=>true
 | .l,.m| .m,.l| .m,.m| .m,.n| .m,.s| .m,.a| .s,.m| .a,.m=>true
 | .l,.k| .m,.k| .n,.k| .s,.k=>true
 | .m,.r| .r,.m| .r,.n| .r,.s| .n,.r| .s,.r| .r,.w| .w,.r=>true
 |_,_=>false
def zx(g h:c6):Bool:=(match g.i.dst with|some d=> !(h.looks.contains d)&&h.i.dst !=some d|none=>true)&&(match h.i.dst with|some d=> !(g.looks.contains d)|none=>true)&&e7 g.i.mode h.i.mode
theorem Xv(q:Bool)(n0:Nat)(m:Br)(d:aZ Nat)(A:dh):H9 q n0 m d A (lq d):=⟨rfl,fun k ab=>by simp[lq,look]at ab,fun k ab=>by simp[lq,look]at ab,fun k ab=>by simp[lq]at ab,fun _ k o ab=>by simp[lq,look]at ab,fun _ k o ab=>by simp[lq,look]at ab⟩
theorem Nh{P:cE}{q:Bool}{n0:Nat}{g:c6}{A:dh}{x:kR}(h:kS P q n0 g A x):H9 q n0 g.i.mode g.i.dst A x:=by
 unfold kS at h;split at h
 ·exact Xu h
 ·split at h
  ·rcases h with⟨_,h⟩|⟨_,rfl⟩
   ·exact Xu h
   ·exact Xv _ _ _ _ _
  ·subst h;exact Xv _ _ _ _ _
  ·exact h.elim
theorem sI{A:dh}{x:kR}{k:aI}(h:look k x.bw=none):(A.do x).b k=A.b k:=by simp[dh.do,iy,h]
theorem sJ{A:dh}{x:kR}{k:aI}(h:look k x.ew=none):(A.do x).e k=A.e k:=by simp[dh.do,iy,h]
theorem I1{A:dh}{x:kR}{k:aI}(h:(A.do x).b k=none):A.b k=none:=by
 simp only[dh.do,iy]at h;split at h
 ·cases h
 ·exact h
theorem I2{A:dh}{x:kR}{k:aI}(h:(A.do x).e k=none):A.e k=none:=by
 simp only[dh.do,iy]at h;split at h
 ·cases h
 ·exact h
theorem lP{α:Type}{o:aZ α}(h:¬o.isSome):o=none:=by cases o<;>simp at h⊢
theorem NV{P:cE}{q:Bool}{n0:Nat}{g:c6}{A gj:dh}{x:kR}(h:kS P q n0 g A x)(aK:qC g.looks A.t gj.t)(hm:et P q n0 g.i A x→et P q n0 g.i gj x):kS P q n0 g gj x:=by
 unfold kS at h⊢;cases a7:g.g with
 |none=>simp only[a7]at h⊢;exact hm h
 |some yR=>
  obtain⟨s,w⟩:=yR;have:A.t s=gj.t s:=aK s (by simp[c6.looks,a7]);simp only[a7,this]at h⊢;split at h
  ·rcases h with⟨J,U⟩|h
   ·exact .inl ⟨J,hm U⟩
   ·exact .inr h
  ·exact h
  ·exact h
theorem swap{P:cE}{q:Bool}{n0:Nat}{g h:c6}(SG:zx g h=true){A:dh}{x y:kR}(af:kS P q n0 g A x)(aM:kS P q n0 h (A.do x) y):
  kS P q n0 h A y∧kS P q n0 g (A.do y) x∧x.apart y:=by
 simp only[zx,cC]at SG;obtain⟨⟨fp,eJ⟩,hm⟩:=SG;have yU:=Nh af;have cF:∀d cg,g.i.dst=some d→h.i.dst=some cg→d≠cg:=by intro d cg ak aE e;simp only[ak,cC,bne_iff_ne]at fp;exact fp.2 (by rw[aE,e])
 have Fs:qC h.looks (A.do x).t A.t:=by intro i hi;simp only[dh.do];rw[if_neg];intro e;rw[yU.d]at e;simp only[e,cC,Bool.not_eq_true',List.contains_eq_mem,gI]at fp;exact fp.1 hi
 have qT:∀k,(look k x.bw).isSome→_:=yU.b;have hle:∀k,(look k x.ew).isSome→_:=yU.e;have TX:kS P q n0 h A y:=by
  refine NV aM Fs fun nc=>NT nc (fun i hi=>Fs i (by simp[c6.looks,hi])) (fun e k ab ad=>?_) (fun e k ad=>?_) (fun e bo k o ax ij=>?_) (fun d aQ vY lD=>?_) (fun e k o ax=>?_) (fun e k=>?_) (fun e m lD=>⟨lD.1.1,I1 lD.2.1,I2 lD.2.2⟩) (fun e k o ax ij=>?_) (fun e m=>?_)
  ·rw[sI (lP fun ag=>?_)];rcases qT k ag with⟨ak,_⟩|ak|⟨ak,⟨j,aE⟩,bj⟩|⟨ak,_⟩;rotate_left 3
   ·rw[e,ak]at hm;simp[e7]at hm
   ·rw[e,ak]at hm;simp[e7]at hm
   ·rw[e,ak]at hm;simp[e7]at hm
   ·rcases ab with ab|⟨m,ab⟩
    ·rw[ab]at bj;cases bj
    ·rw[ab]at aE;cases aE
  ·rw[sI (lP fun ag=>?_)];rcases qT k ag with⟨ak,_⟩|ak|⟨ak,_⟩|⟨ak,_⟩<;>(rw[e,ak]at hm;simp[e7]at hm)
  ·rw[e]at hm;cases h1:look k x.ew with
   |none=>rw[sJ h1]at ax;exact ax
   |some o'=>
    exfalso;have Km:(A.do x).e k=some o':=by simp[dh.do,iy,h1]
    rw[Km]at ax;cases ax;rcases hle k (by simp[h1])with⟨ak,_⟩|⟨ak,_⟩|⟨ak,_,bj⟩|⟨ak,_⟩
    ·exact ij (yU.xn (.inr ak) k _ h1)
    ·exact ij (yU.xn (.inl ak) k _ h1)
    ·rw[bo]at bj;cases bj
    ·rw[ak]at hm;simp[e7]at hm
  ·exact⟨lD.1.1,I1 lD.2.1,I2 lD.2.2⟩
  ·rw[sJ (lP fun ag=>?_)]at ax
   ·exact ax
   ·rw[e]at hm;rcases hle k ag with⟨ak,_⟩|⟨ak,_⟩|⟨ak,_⟩|⟨ak,_⟩<;>(rw[ak]at hm;simp[e7]at hm)
  ·rw[sI (lP fun ag=>?_)];rw[e]at hm;rcases qT k ag with⟨ak,_⟩|ak|⟨ak,_⟩|⟨ak,_⟩<;>(rw[ak]at hm;simp[e7]at hm)
  ·rw[e]at hm;cases h1:look k x.ew with
   |none=>rw[sJ h1]at ax;exact ax
   |some o'=>
    exfalso;have Km:(A.do x).e k=some o':=by simp[dh.do,iy,h1]
    rw[Km]at ax;cases ax;rcases hle k (by simp[h1])with⟨ak,_⟩|⟨ak,_⟩|⟨ak,_⟩|⟨ak,_⟩
    ·exact ij (yU.xn (.inr ak) k _ h1)
    ·rw[ak]at hm;simp[e7]at hm
    ·rw[ak]at hm;simp[e7]at hm
    ·rw[ak]at hm;simp[e7]at hm
  ·rw[e]at hm;refine⟨?_,?_,fun gK=>gK.1⟩
   ·rw[sI (lP fun ag=>?_)];rcases qT _ ag with⟨ak,d,_,aE,_⟩|ak|⟨ak,_⟩|⟨ak,_⟩;rotate_left 3
    ·rw[ak]at hm;simp[e7]at hm
    ·cases aE
    ·rw[ak]at hm;simp[e7]at hm
    ·rw[ak]at hm;simp[e7]at hm
   ·rw[sJ (lP fun ag=>?_)];rcases hle _ ag with⟨ak,d,_,aE,_⟩|⟨ak,_⟩|⟨ak,_⟩|⟨ak,_⟩
    ·cases aE
    ·rw[ak]at hm;simp[e7]at hm
    ·rw[ak]at hm;simp[e7]at hm
    ·rw[ak]at hm;simp[e7]at hm
 have ty:=Nh TX;have Sp:qC g.looks A.t (A.do y).t:=by intro i hi;simp only[dh.do];rw[if_neg];intro e;rw[ty.d]at e;simp only[e,Bool.not_eq_true',List.contains_eq_mem,gI]at eJ;exact eJ hi
 refine⟨TX,?_,?_⟩
 ·refine NV af Sp fun nc=>NT nc (fun i hi=>Sp i (by simp[c6.looks,hi])) (fun e k ab ad=>?_) (fun e k ad=>?_) (fun e bo k o ax ij=>?_) (fun d aQ vY lD=>?_) (fun e k o ax=>?_) (fun e k=>?_) (fun e m lD=>?_) (fun e k o ax ij=>?_) (fun e m=>?_)
  ·refine sI (lP fun ag=>?_);rcases ty.b k ag with⟨ak,d,_,_,aE,_⟩|ak|⟨ak,⟨j,aE⟩,bj⟩|⟨_,_,aE,_⟩;rotate_left 3
   ·exact ad aE
   ·exact ad aE
   ·rw[e,ak]at hm;simp[e7]at hm
   ·rcases ab with ab|⟨m,ab⟩
    ·rw[ab]at bj;cases bj
    ·rw[ab]at aE;cases aE
  ·refine sI (lP fun ag=>?_);rcases ty.b k ag with⟨ak,d,_,_,aE,_⟩|ak|⟨ak,_⟩|⟨_,_,aE,_⟩;rotate_left 3
   ·exact ad aE
   ·exact ad aE
   ·rw[e,ak]at hm;simp[e7]at hm
   ·rw[e,ak]at hm;simp[e7]at hm
  ·rw[sJ (lP fun ag=>?_)]
   ·exact ax
   ·rcases ty.e k ag with⟨ak,d,_,_,_,aE⟩|⟨ak,aE⟩|⟨ak,_,bj⟩|⟨ak,_⟩
    ·rw[aE]at ax;cases ax
    ·exact ij (ty.ex ak k o ag ax)
    ·rw[bo]at bj;cases bj
    ·rw[e,ak]at hm;simp[e7]at hm
  ·refine⟨⟨lD.1,fun qK=>?_⟩,?_,?_⟩
   ·rcases ty.r _ qK with⟨cg,ak,aE⟩|⟨_,⟨j,aE⟩,_⟩
    ·simp only[aI.loc.injEq]at aE;exact cF d cg aQ ak (by omega)
    ·cases aE
   ·rw[sI (lP fun ag=>?_)]
    ·exact lD.2.1
    ·rcases ty.b _ ag with⟨ak,cg,aE,bj,_⟩|ak|⟨ak,⟨j,aE⟩,_⟩|⟨ak,⟨j,aE⟩,_⟩;rotate_left 3
     ·cases aE
     ·simp only[aI.loc.injEq]at bj;exact cF d cg aQ aE (by omega)
     ·rcases vY with aE|aE|aE|aE<;>(rw[ak,aE]at hm;simp[e7]at hm)
     ·cases aE
   ·rw[sJ (lP fun ag=>?_)]
    ·exact lD.2.2
    ·rcases ty.e _ ag with⟨ak,cg,aE,bj,_⟩|⟨ak,aE⟩|⟨ak,⟨j,aE⟩,_⟩|⟨ak,o,aE,_⟩
     ·simp only[aI.loc.injEq]at bj;exact cF d cg aQ aE (by omega)
     ·rcases aE with aE|⟨cg,aE,bj,_⟩
      ·exact aE lD.2.2
      ·simp only[aI.loc.injEq]at bj;exact cF d cg aQ aE (by omega)
     ·cases aE
     ·rw[lD.2.2]at aE;cases aE
  ·rw[sJ (lP fun ag=>?_)]
   ·exact ax
   ·rw[e]at hm;rcases ty.e k ag with⟨ak,d,_,_,_,aE⟩|⟨ak,_⟩|⟨ak,_⟩|⟨ak,_⟩
    ·rw[aE]at ax;cases ax
    ·rw[ak]at hm;simp[e7]at hm
    ·rw[ak]at hm;simp[e7]at hm
    ·rw[ak]at hm;simp[e7]at hm
  ·refine sI (lP fun ag=>?_);rw[e]at hm;rcases ty.b k ag with⟨ak,_⟩|ak|⟨ak,_⟩|⟨ak,_⟩<;>(rw[ak]at hm;simp[e7]at hm)
  ·rw[e]at hm;refine⟨⟨lD.1,fun qK=>?_⟩,?_,?_⟩
   ·rcases ty.r _ qK with⟨cg,ak,aE⟩|⟨ak|ak,_⟩
    ·cases aE
    ·rw[ak]at hm;simp[e7]at hm
    ·rw[ak]at hm;simp[e7]at hm
   ·rw[sI (lP fun ag=>?_)]
    ·exact lD.2.1
    ·rcases ty.b _ ag with⟨ak,_⟩|ak|⟨ak,_⟩|⟨ak,_⟩<;>(rw[ak]at hm;simp[e7]at hm)
   ·rw[sJ (lP fun ag=>?_)]
    ·exact lD.2.2
    ·rcases ty.e _ ag with⟨ak,_⟩|⟨ak,_⟩|⟨ak,_⟩|⟨ak,o,aE,_⟩
     ·rw[ak]at hm;simp[e7]at hm
     ·rw[ak]at hm;simp[e7]at hm
     ·rw[ak]at hm;simp[e7]at hm
     ·rw[lD.2.2]at aE;cases aE
  ·rw[sJ (lP fun ag=>?_)]
   ·exact ax
   ·rw[e]at hm;rcases ty.e k ag with⟨ak,d,_,_,_,aE⟩|⟨ak,_⟩|⟨ak,_⟩|⟨ak,_⟩
    ·rw[aE]at ax;cases ax
    ·rw[ak]at hm;simp[e7]at hm
    ·rw[ak]at hm;simp[e7]at hm
    ·rw[ak]at hm;simp[e7]at hm
  ·rw[e]at hm;refine⟨?_,?_,fun gK=>⟨gK,fun qK=>?_⟩⟩;rotate_left 2
   ·rcases ty.r _ qK with⟨cg,_,aE⟩|⟨aE|aE,_⟩
    ·cases aE
    ·rw[aE]at hm;simp[e7]at hm
    ·rw[aE]at hm;simp[e7]at hm
   ·refine sI (lP fun ag=>?_);rcases ty.b _ ag with⟨ak,d,_,aE,_⟩|ak|⟨ak,_⟩|⟨ak,_⟩;rotate_left 3
    ·rw[ak]at hm;simp[e7]at hm
    ·cases aE
    ·rw[ak]at hm;simp[e7]at hm
    ·rw[ak]at hm;simp[e7]at hm
   ·refine sJ (lP fun ag=>?_);rcases ty.e _ ag with⟨ak,d,_,aE,_⟩|⟨ak,_⟩|⟨ak,_⟩|⟨ak,_⟩
    ·cases aE
    ·rw[ak]at hm;simp[e7]at hm
    ·rw[ak]at hm;simp[e7]at hm
    ·rw[ak]at hm;simp[e7]at hm
 ·refine⟨fun i hi e=>?_,fun k ab=>lP fun ag=>?_,fun k ab=>lP fun ag=>?_⟩
  ·rw[yU.d]at hi;rw[ty.d]at e;exact cF i i hi e rfl
  ·rcases qT k ab with⟨bD,d,a2,a3,_⟩|bD|⟨bD,⟨j,a2⟩,_⟩|⟨bD,_⟩<;>rcases ty.b k ag with⟨cl,cg,b8,fG,_⟩|cl|⟨cl,⟨dD,b8⟩,_⟩|⟨cl,⟨dD,b8⟩,_⟩;all_goals first|(rw[bD,cl]at hm;simp[e7]at hm;done)|skip
   ·rw[a3]at fG;simp only[aI.loc.injEq]at fG;exact cF d cg a2 b8 (by omega)
   ·rw[a3]at b8;cases b8
   ·rw[a3]at b8;cases b8
   ·rw[a2]at fG;cases fG
  ·rcases hle k ab with⟨bD,d,a2,a3,_,a4⟩|⟨bD,a2⟩|⟨bD,⟨j,a2⟩,_⟩|⟨bD,gU,a2,_⟩<;>rcases ty.e k ag with⟨cl,cg,b8,fG,_,ou⟩|⟨cl,b8⟩|⟨cl,⟨dD,b8⟩,_⟩|⟨cl,gM,b8,_⟩
   ·rw[a3]at fG;simp only[aI.loc.injEq]at fG;exact cF d cg a2 b8 (by omega)
   ·rw[bD,cl]at hm;simp[e7]at hm
   ·rw[a3]at b8;cases b8
   ·rw[a4]at b8;cases b8
   ·rcases a2 with a2|⟨d,a2,a3,_⟩
    ·exact a2 ou
    ·rw[a3]at fG;simp only[aI.loc.injEq]at fG;exact cF d cg a2 b8 (by omega)
   ·rw[bD,cl]at hm;simp[e7]at hm
   ·rw[bD,cl]at hm;simp[e7]at hm
   ·rw[bD,cl]at hm;simp[e7]at hm
   ·rw[a2]at fG;cases fG
   ·rw[bD,cl]at hm;simp[e7]at hm
   ·rw[bD,cl]at hm;simp[e7]at hm
   ·rw[bD,cl]at hm;simp[e7]at hm
   ·rw[ou]at a2;cases a2
   ·rw[bD,cl]at hm;simp[e7]at hm
   ·rw[bD,cl]at hm;simp[e7]at hm
   ·rw[bD,cl]at hm;simp[e7]at hm
def xg(C:fh)(A:dh)(a:Act)(w:World):Prop:= ∃st ν,lu st A∧(∀k,A.F k→fresh st.n st.o k)∧cU C st a w ν
theorem La{st:bs}{A:dh}(h:lu st A)(d:Nat)(p:ah):lu {st with t:=put d p st.t} (A.do ⟨some d,p,[],[],none⟩):=by
 refine⟨fun i=>?_,fun k=>?_,fun k=>?_⟩
 ·simp only[dh.do,pz,dL,h.t]
 ·simpa[dh.do,iy,look]using h.b k
 ·simpa[dh.do,iy,look]using h.e k
theorem Ux{st:bs}{A:dh}(h:lu st A)(d:Nat)(p:ah)(o':List aI)(rm:aZ aI):lu {st with t:=put d p st.t,o:=o'} (A.do ⟨some d,p,[],[],rm⟩):=by have:=La h d p;exact⟨this.t,this.b,this.e⟩
theorem Yk{α:Type}{β:Type}:∀l:List (aI×α),cz ([]:List (aI×β)) l=l
 |[]=>rfl
 |(k,x)::r=>by simp[cz,look,Yk r]
theorem Ap{st:bs}{A:dh}(h:lu st A)(d:Nat)(p:ah)(κ:aI)(cs:List ah)(n':Nat)(o':List aI)(rm:aZ aI):lu ⟨put d p st.t,cB κ cs st.b,st.e,n',o'⟩ (A.do ⟨some d,p,[(κ,cs)],[],rm⟩):=by
 refine⟨fun i=>?_,fun k=>?_,fun k=>?_⟩
 ·simp only[dh.do,pz,dL,h.t]
 ·simp only[dh.do,iy,look,iP,h.b];by_cases e:κ=k<;>simp[e]
 ·simpa[dh.do,iy,look]using h.e k
theorem Gp{st:bs}{A:dh}(h:lu st A)(κ:aI)(cs:List ah)(p:ah):lu {st with b:=cB κ cs st.b} (A.do ⟨none,p,[(κ,cs)],[],none⟩):=by
 refine⟨fun i=>?_,fun k=>?_,fun k=>?_⟩
 ·simpa[dh.do]using h.t i
 ·simp only[dh.do,iy,look,iP,h.b];by_cases e:κ=k<;>simp[e]
 ·simpa[dh.do,iy,look]using h.e k
theorem wA{st:bs}{A:dh}(h:lu st A)(d:Nat)(p:ah)(κ:aI)(o:fN)(n':Nat)(o':List aI)(rm:aZ aI):lu ⟨put d p st.t,st.b,cB κ o st.e,n',o'⟩ (A.do ⟨some d,p,[],[(κ,o)],rm⟩):=by
 refine⟨fun i=>?_,fun k=>?_,fun k=>?_⟩
 ·simp only[dh.do,pz,dL,h.t]
 ·simpa[dh.do,iy,look]using h.b k
 ·simp only[dh.do,iy,look,iP,h.e];by_cases e:κ=k<;>simp[e]
theorem Uw{st:bs}{A:dh}(h:lu st A)(κ:aI)(o:fN)(p:ah):lu {st with e:=cB κ o st.e} (A.do ⟨none,p,[],[(κ,o)],none⟩):=by
 refine⟨fun i=>?_,fun k=>?_,fun k=>?_⟩
 ·simpa[dh.do]using h.t i
 ·simpa[dh.do,iy,look]using h.b k
 ·simp only[dh.do,iy,look,iP];by_cases e:κ=k<;>simp[e,h.e]
theorem Lp{α:Type}{k:aI}:∀{l:List (aI×α)},k∈l.map (·.1)→(look k l).isSome
 |[],h=>by simp at h
 |(i,x)::r,h=>by
  simp only[look];split
  ·rfl
  ·rename_i e;simp only[gO,fR]at h;rcases h with h|h
   ·exact absurd h.symm e
   ·exact Lp h
theorem vH{n:Nat}{o:List aI}{κ:aI}:∀j,fresh n (κ::o) j→fresh n o j∧j≠κ:=by intro j ae;simp only[fresh,fR,not_or]at ae⊢;exact⟨⟨ae.1,ae.2.2⟩,ae.2.1⟩
theorem adF{n:Nat}{o:List aI}{κ j:aI}(h:fresh n o j)(ae:some κ≠some j):fresh n (κ::o) j:=by simp only[fresh,fR,not_or]at h⊢;exact⟨h.1,fun e=>ae (by rw[e]),h.2⟩
theorem NU{P:cE}{bB:List (Nat×dF)}(aK:fP P bB=true){C:fh}{q:Bool}{n0:Nat}{i:ei}{o:Oper}(ax:u6 C.N bB i o=true){A:dh}{x:kR}(af:et P q n0 i A x){a:Act}{w:World}(aJ:xg C A a w)
  {K:Act→World→Prop} {Q:Exit→Act→World→Prop} (c3:∀bp w',xg C (A.do x) bp w'→K bp w'):o.wp P a w K Q:=by
 obtain⟨st,ν,aw,gK,aJ⟩:=aJ;have xI:∀(t:List (Nat×ah)) (b:List (aI×List ah)) (e:List (aI×fN)) (d:aZ Nat) (p:ah) (bw:List (aI×List ah)) (ew:List (aI×fN)),∀k,(A.do ⟨d,p,bw,ew,none⟩).F k→fresh st.n st.o k:=fun t b e d p bw ew k ab=>gK k ab.1;have nb:∀(d:aZ Nat) (p:ah) (bw:List (aI×List ah)) (ew:List (aI×fN)) (κ:aI),∀k,(A.do ⟨d,p,bw,ew,some κ⟩).F k→fresh st.n (κ::st.o) k:=fun d p bw ew κ k ab=>adF (gK k ab.1) ab.2;cases i with
 |s i=>
  have fW:DP C.N bB i o=true:=by simpa only[u6]using ax
  cases i with
  |v d i=>simp only[et]at af;obtain⟨c,p,J,U,_,rfl⟩:=af;rw[←XB aw]at J;refine jO (κ:= .loc 0) (n':=0) (o₁:=[]) aK aJ fW (fun h=>by simp[eo.makes]at h) (fun h=>by simp[eo.makes]at h) (st':={st with t:=put d p st.t}) (by simp only[eA,J]) U fun bp w' bq cb=>c3 _ _ ⟨_,bq,La aw d p,fun k ab=>gK k ab.1,cb⟩
  |box d key v=>
   cases key with
   |some m=>simp only[et]at af
   |none=>simp only[et]at af;obtain⟨⟨J,_⟩,U,rfl⟩:=af;rw[←iJ aw]at U;refine jO (κ:= .loc (n0+d)) (n':=st.n) (o₁:= .loc (n0+d)::st.o) aK aJ fW (fun _=>gK _ J) (fun _=>vH) (st':=⟨put d (.ptr (.loc (n0+d)) 0) st.t,cB (.loc (n0+d)) (cells (cr st.t v)) st.b,st.e,st.n,.loc (n0+d)::st.o⟩) (by simp only[eA]) U fun bp w' bq cb=>c3 _ _ ⟨_,bq,?_,nb _ _ _ _ _,cb⟩;rw[iJ aw];exact Ap aw d _ _ _ _ _ _
  |alloc d key z=>
   cases key with
   |some m=>simp only[et]at af
   |none=>simp only[et]at af;obtain⟨⟨J,_⟩,rfl⟩:=af;refine jO (κ:= .loc (n0+d)) (n':=st.n) (o₁:= .loc (n0+d)::st.o) aK aJ fW (fun _=>gK _ J) (fun _=>vH) (st':=⟨put d (.ptr (.loc (n0+d)) 0) st.t,cB (.loc (n0+d)) (cells z) st.b,st.e,st.n,.loc (n0+d)::st.o⟩) (by simp only[eA]) trivial fun bp w' bq cb=>c3 _ _ ⟨_,bq,Ap aw d _ _ _ _ _ _,nb _ _ _ _ _,cb⟩
  |store sz u v=>simp only[et]at af;obtain⟨k,off,cs,J,U,ar,rfl⟩:=af;rw[←iJ aw]at J ar;rw[←aw.b]at U;refine jO (κ:= .loc 0) (n':=0) (o₁:=[]) aK aJ fW (fun h=>by simp[eo.makes]at h) (fun h=>by simp[eo.makes]at h) (st':={st with b:=cB k (n3 cs off (cells (cr st.t v))) st.b}) (by simp only[eA,J,U]) ar fun bp w' bq cb=>c3 _ _ ⟨{st with b:=cB k (n3 cs off (cells (cr st.t v))) st.b},bq,by rw[iJ aw];exact Gp aw k _ _,fun k ab=>gK k ab.1,cb⟩
  |bsl d sz el xs=>simp only[et]at af;obtain⟨⟨J,_⟩,U,rfl⟩:=af;rw[←ug aw]at U;refine jO (κ:= .loc (n0+d)) (n':=st.n) (o₁:= .loc (n0+d)::st.o) aK aJ fW (fun _=>gK _ J) (fun _=>vH) (st':=⟨put d (.slice sz (.own (.loc (n0+d))) (xs.map (cr st.t))) st.t,st.b,cB (.loc (n0+d)) ⟨xs.length,el,sz,none⟩ st.e,st.n,.loc (n0+d)::st.o⟩) (by simp only[eA]) U fun bp w' bq cb=>c3 _ _ ⟨_,bq,?_,nb _ _ _ _ _,cb⟩;rw[ug aw];exact wA aw d _ _ _ _ _ _
  |app d sz el u v=>
   simp only[et]at af;obtain⟨tag,xs,k1,ys,J,U,af⟩:=af;rw[←iJ aw]at J U;rcases af with⟨k,ow,rfl,ar,ba,rfl⟩|⟨rfl,ar,⟨ba,_⟩,rfl⟩
   ·rw[←aw.e]at ar;refine jO (κ:= .loc 0) (n':=0) (o₁:=[]) aK aJ fW (fun h=>by simp[eo.makes,J]at h) (fun h=>by simp[eo.makes,J]at h) (st':=⟨put d (.slice sz (.own k) (xs++ys)) st.t,st.b,cB k ⟨xs.length+ys.length,el,sz,none⟩ st.e,st.n,st.o⟩) (by simp only[eA,J,U,ar,and_self,if_true]) ba.2 fun bp w' bq cb=>c3 _ _ ⟨_,bq,wA aw d _ _ _ _ _ _,fun k ab=>gK k ab.1,cb⟩
   ·refine jO (κ:= .loc (n0+d)) (n':=st.n) (o₁:= .loc (n0+d)::st.o) aK aJ fW (fun _=>gK _ ba) (fun _=>vH) (st':=⟨put d (.slice sz (.own (.loc (n0+d))) ys) st.t,st.b,cB (.loc (n0+d)) ⟨ys.length,el,sz,none⟩ st.e,st.n,.loc (n0+d)::st.o⟩) (by simp only[eA,J,U,and_self,if_true]) ar fun bp w' bq cb=>c3 _ _ ⟨_,bq,wA aw d _ _ _ _ _ _,nb _ _ _ _ _,cb⟩
  |bslm d key sz el xs=>simp only[et]at af
  |mks d key sz el z x=>simp only[et]at af
  |appm d key sz el u v=>simp only[et]at af;obtain⟨k,n,xs,k1,ys,J,U,ar,ba,rfl⟩:=af;rw[←iJ aw]at J U;rw[←aw.e]at ar;refine jO (κ:= .loc 0) (n':=0) (o₁:=[]) aK aJ fW (fun h=>by simp[eo.makes,J]at h) (fun h=>by simp[eo.makes,J]at h) (st':=⟨put d (.row sz k (xs.length+ys.length)) st.t,st.b,cB k ⟨xs.length+ys.length,el,sz,some (xs++ys)⟩ st.e,st.n,st.o⟩) (by simp only[eA,sE,J,U,ar,and_self,if_true]) ba fun bp w' bq cb=>c3 _ _ ⟨_,bq,wA aw d _ _ _ _ _ _,fun k ab=>gK k ab.1,cb⟩
  |storeE sz u v=>simp only[et]at af;obtain⟨k,n,i,f,el,dI,xs,q,J,U,ar,ba,rfl⟩:=af;rw[←iJ aw]at J ba;rw[←aw.e]at U;refine jO (κ:= .loc 0) (n':=0) (o₁:=[]) aK aJ fW (fun h=>by simp[eo.makes]at h) (fun h=>by simp[eo.makes]at h) (st':={st with e:=cB k ⟨n,el,dI,some (xs.set i (mN q f (cells (cr st.t v))))⟩ st.e}) (by simp only[eA,q8,J,U,ar,and_self,if_true]) ba fun bp w' bq cb=>c3 _ _ ⟨{st with e:=cB k ⟨n,el,dI,some (xs.set i (mN q f (cells (cr st.t v))))⟩ st.e},bq,by rw[iJ aw];exact Uw aw k _ _,fun k ab=>gK k ab.1,cb⟩
  |mkmap d key=>
   cases key with
   |none=>simp only[et]at af
   |some m=>simp only[et]at af;obtain⟨⟨J,_⟩,rfl⟩:=af;exact jO (κ:= .obj m) (n':=st.n) (o₁:= .obj m::st.o) aK aJ fW (fun _=>gK _ J) (fun _=>vH) (st':=⟨put d (.gmap (.obj m)) st.t,cB (.obj m) [.hdm 0 []] st.b,st.e,st.n,.obj m::st.o⟩) (by simp only[eA]) trivial fun bp w' bq cb=>c3 _ _ ⟨_,bq,Ap aw d _ _ _ _ _ _,nb _ _ _ _ _,cb⟩
  |mput ch u k v=>simp only[et]at af;obtain⟨m,cs,cs',J,U,ar,rfl⟩:=af;rw[←iJ aw]at J;rw[←iJ aw,←iJ aw]at ar;rw[←aw.b]at U;exact jO (κ:= .loc 0) (n':=0) (o₁:=[]) aK aJ fW (fun h=>by simp[eo.makes]at h) (fun h=>by simp[eo.makes]at h) (st':={st with b:=cB m cs' st.b}) (by simp only[eA,J,U,ar]) trivial fun bp w' bq cb=>c3 _ _ ⟨{st with b:=cB m cs' st.b},bq,Gp aw m _ _,fun k ab=>gK k ab.1,cb⟩
  |range d key x=>simp only[et]at af
 |next d x=>simp only[et]at af
 |call d f xs=>
  simp only[et]at af;obtain⟨n,dj,J,af⟩:=af;rw[←iJ aw]at J;rcases af with⟨⟨s,ai,r,rm,bL,cp,dc,ix,l1,pg,BE,rfl⟩,_⟩|⟨cG,r,rfl,bL,cp,dc,rfl⟩;rotate_left
  ·rw[←ug aw]at cp dc;simp only[u6]at ax;split at ax
   ·rename_i rA args Bc nl;simp only[cC,dQ]at ax;obtain⟨⟨⟨ak,aE⟩,bj⟩,c2⟩:=ax;have l6:=en aJ bj;rw[J]at l6;refine QK aJ nl ak aE l6 (DJ aJ c2) (K:=fun st'=>st'={st with t:=put cG r st.t,o:= .loc (n0+cG)::st.o}) ⟨⟨[],[]⟩,_,some (n0+cG),st.n,fun _=>.loc (n0+cG)::st.o,fun k cs ab=>by simp[look]at ab,fun k cs ab=>by simp[look]at ab,⟨fun _=>rfl,fun _=>rfl⟩,jZ (fun _ h=>h.elim) _ cp,dc,fun m hm=>?_,fun k eF ai bo ab=>?_,?_⟩ ?_
    ·cases hm;exact gK _ bL.1
    ·obtain⟨_,rfl⟩:=bo;have:=vH k ab;exact⟨by simpa[cX]using this.1,fun m hm=>by cases hm;exact this.2⟩
    ·rintro eF oR ⟨rfl,rfl⟩;refine⟨⟨fun m hm=>by simp[look]at hm,fun m hm=>by simp[look]at hm⟩,?_⟩;simp[after,Yk,eM]
    ·rintro st' bp w' bq rfl cb;exact c3 _ _ ⟨_,bq,Ux aw cG r _ _,nb _ _ _ _ _,cb⟩
   ·cases ax
  rw[←ug aw]at pg BE;simp only[u6]at ax;split at ax
  ·rename_i rA args Bc nl;simp only[cC,dQ]at ax;obtain⟨⟨⟨ak,aE⟩,bj⟩,c2⟩:=ax;have l6:=en aJ bj;rw[J]at l6;obtain⟨aU,bC,cf,eZ,de⟩:=l1;refine QJ aJ nl ak aE l6 (DJ aJ c2) (K:=fun st'=>st'=after st s ai d r) (.inl ⟨s,_,fun k cs ab=>⟨by rw[aw.b];exact(bL k cs ab).1,.inl (by simp[ab]),(bL k cs ab).2⟩,fun k o' ab=>⟨by rw[aw.e];exact(cp k o' ab).1,.inr (by simp[ab]),(cp k o' ab).2⟩,dc,pg,BE,?_⟩) ?_
   ·rintro eF oR ⟨rfl,rfl⟩;refine⟨⟨fun m hm=>?_,fun m hm=>?_⟩,rfl⟩
    ·rcases aU _ hm with h|h
     ·exact .inl h
     ·exact .inr (gK _ (de _ h).2.1).2
    ·rcases bC _ hm with h|h
     ·exact .inl h
     ·exact .inr (gK _ (de _ h).2.1).2
   ·rintro st' bp w' bq rfl cb;refine c3 _ _ ⟨_,bq,⟨fun i=>?_,fun k=>?_,fun k=>?_⟩,fun k ab=>?_,cb⟩
    ·simp only[after,dh.do];cases d with
     |none=>simpa[eM]using aw.t i
     |some d=>simp only[eM,pz,dL,aw.t]
    ·simp only[after,dh.do,iy,yl,uX];by_cases ag:(look k s.b).isSome
     ·have:=cf k ag;obtain⟨y,aM⟩:=fM.1 this;simp[ag,aM]
     ·cases ay:look k ai.b with
      |none=>simp only[ag,aw.b];cases A.b k<;>simp
      |some y=>
       rcases aU k (by simp[ay])with h|h
       ·exact absurd h ag
       ·have:=de k h;simp[ag,aw.b,this]
    ·simp only[after,dh.do,iy,yl,uX];by_cases ag:(look k s.e).isSome
     ·have:=eZ k ag;obtain⟨y,aM⟩:=fM.1 this;simp[ag,aM]
     ·cases ay:look k ai.e with
      |none=>simp only[ag,aw.e];cases A.e k<;>simp
      |some y=>
       rcases bC k (by simp[ay])with h|h
       ·exact absurd h ag
       ·have:=de k h;simp[ag,aw.e,this]
    ·have J4:=gK k ab.1;have oF:=aJ.lookNone J4;simp only[after];refine⟨J4.1,fun jG=>?_⟩;rcases kQ.1 jG with jG|jG
     ·exact J4.2 jG
     ·rcases kQ.1 jG with jG|jG
      ·rcases aU k (Lp jG)with h|h
       ·obtain⟨y,aM⟩:=fM.1 h;have:=(bL k y aM).1;rw[←aw.b,oF.1]at this;cases this
       ·exact ab.2 h
      ·rcases bC k (Lp jG)with h|h
       ·obtain⟨y,aM⟩:=fM.1 h;have:=(cp k y aM).1;rw[←aw.e,oF.2]at this;cases this
       ·exact ab.2 h
  ·cases ax
theorem YA{P:cE}{bB:List (Nat×dF)}(aK:fP P bB=true){C:fh}{q:Bool}{n0:Nat}{ops:Array Oper}{g:c6}{o:Oper}{j:Nat}(ae:ops[j]? =some o)(ax:B2 C.N bB ops.toList g o=true){A:dh}{x:kR}(af:kS P q n0 g A x){a:Act}{w:World}(aJ:xg C A a w)
  {K:Act→World→Prop} {Q:Exit→Act→World→Prop} (c3:∀bp w',xg C (A.do x) bp w'→K bp w'):wpOp P ops Q j K a w:=by
 unfold wpOp;rw[ae];simp only;simp only[B2,cC]at ax;obtain⟨qR,rM⟩:=ax;unfold kS at af;cases Cm:g.g with
 |none=>
  cases dC:o.guard with
  |some x=>simp[dC,Cm]at qR
  |none=>
   have hw:o4 o (yielded ops a.tmps)=true:=by simp[o4,dC]
   rw[if_pos hw];simp only[Cm]at af;exact .inl (NU aK rM af aJ c3)
 |some yR=>
  obtain⟨s,want⟩:=yR;cases dC:o.guard with
  |none=>simp[dC,Cm]at qR
  |some aob=>
   obtain⟨aqk,b5⟩:=aob;simp only[dC,Cm,cC,dQ,e2]at qR;obtain⟨⟨⟨⟨rfl,U⟩,ar⟩,ba⟩,b4⟩:=qR;obtain⟨st,ν,aw,gK,dH⟩:=id aJ;obtain⟨kN,o3⟩:=Yp dH U ar;simp only[Cm]at af;have Ti:∀(h:x=lq g.i.dst),K (a.put o.dst undef) w:=by
    rintro rfl;rw[ba];refine c3 _ _ ⟨_,ν,?_,fun k ab=>?_,dH.put b4 (p:= .tuple []) (by simp[bc,cQ,undef])⟩
    ·refine⟨fun i=>?_,fun k=>?_,fun k=>?_⟩
     ·simp only[dh.do,lq];cases g.i.dst with
      |none=>simpa[eM]using aw.t i
      |some d=>simp only[eM,pz,dL,aw.t]
     ·simpa[dh.do,iy,look,lq]using aw.b k
     ·simpa[dh.do,iy,look,lq]using aw.e k
    ·exact gK k ab.1
   split at af
   ·rename_i b ad;have aM:=kN b (by rw[aw.t];exact ad);rcases af with⟨rfl,af⟩|⟨rfl,af⟩
    ·have hw:o4 o (yielded ops a.tmps)=true:=by simp[o4,dC,aM]
     rw[if_pos hw];exact .inl (NU aK rM af aJ c3)
    ·have hw:¬(o4 o (yielded ops a.tmps)=true):=by simp[o4,dC,aM]
     rw[if_neg hw];exact Ti af
   ·rename_i ad;have aM:=o3 (by rw[aw.t];exact ad);have hw:¬(o4 o (yielded ops a.tmps)=true):=by simp[o4,dC,aM]
    rw[if_neg hw];exact Ti af
   ·exact af.elim
def vC(P:cE)(q:Bool)(n0:Nat)(K:dh→Prop):List (Nat×c6)→dh→Prop
 |[],A=>K A
 |(_,g)::r,A=> ∃x,kS P q n0 g A x∧vC P q n0 K r (A.do x)
theorem OA{P:cE}{q:Bool}{n0:Nat}{K:dh→Prop}{i:Nat}{g:c6}:∀(oi pb:List (Nat×c6)) (A:dh),(∀x∈oi,zx x.2 g=true)→vC P q n0 K (oi++(i,g)::pb) A→∃x,kS P q n0 g A x∧vC P q n0 K (oi++pb) (A.do x)
 |[],pb,A,_,h=>h
 |(j,Sb)::oi,pb,A,au,h=>by simp only[bX,vC]at h;obtain⟨y,aM,h⟩:=h;obtain⟨x,af,h⟩:=OA oi pb (A.do y) (fun z br=>au z (pS _ br)) h;obtain⟨s1,s2,s3⟩:=swap (au _ (List.mem_cons_self ..)) aM af;refine⟨x,s1,y,s2,?_⟩;rw[←dh.do_comm A s3];exact h
def rem(hE:Array Bool):Nat→List c6→List (Nat×c6)
 |_,[]=>[]
 |k,g::r=>if hE.getD k false then rem hE (k+1) r else(k,g)::rem hE (k+1) r
theorem Wz{l a1:Array Bool}:∀(gs:List c6) (k:Nat),(∀j,k≤j→l.getD j false=a1.getD j false)→rem l k gs=rem a1 k gs
 |[],_,_=>rfl
 |g::r,k,h=>by simp only[rem,h k (eR _),Wz r (k+1) fun j ae=>h j (by omega)]
theorem Fk{l:Array Bool}{i j:Nat}(h:i<l.size):(l.setIfInBounds i true).getD j false=if i=j then true else l.getD j false:=by
 simp only[Array.getD_eq_getD_getElem?];by_cases e:i=j
 ·subst e;simp[h]
 ·simp[e]
theorem MC{l:Array Bool}{i:Nat}(hi:i<l.size)(ay:l.getD i false=false):∀(gs:List c6) (k:Nat),k≤i→i<k+gs.length→∃oi pb g,gs[i-k]? =some g∧rem l k gs=oi++(i,g)::pb∧rem (l.setIfInBounds i true) k gs=oi++pb∧
  ∀x∈oi,gs[x.1-k]? =some x.2∧k≤x.1∧x.1<i∧l.getD x.1 false=false
 |[],k,J,U=>by simp at U;omega
 |g::r,k,J,U=>by
  by_cases e:k=i
  ·subst e;refine⟨[],rem l (k+1) r,g,by simp,by simp[rem,ay],?_,fun x af=>by simp at af⟩;simp only[rem,Fk hi,if_true,b2];exact Wz r (k+1) fun j ae=>by rw[Fk hi,if_neg (by omega)]
  ·obtain⟨oi,pb,eI,ak,aE,bj,c2⟩:=MC hi ay r (k+1) (by omega) (by simp at U;omega);have vS:i-k=(i-(k+1))+1:=by omega
   have hb:(l.setIfInBounds i true).getD k false=l.getD k false:=by rw[Fk hi,if_neg (by omega)]
   by_cases ab:l.getD k false=true
   ·refine⟨oi,pb,eI,by rw[vS];simpa using ak,by simp only[rem,ab,if_true,aE],by simp only[rem,hb,ab,if_true,bj],fun x af=>?_⟩;obtain⟨f1,f2,f3,f4⟩:=c2 x af;refine⟨?_,by omega,f3,f4⟩;have:x.1-k=(x.1-(k+1))+1:=by omega
    rw[this];simpa using f1
   ·have ab:l.getD k false=false:=by simpa using ab
    refine⟨(k,g)::oi,pb,eI,by rw[vS];simpa using ak,by simp[rem,ab,aE],by simp[rem,hb,ab,bj],fun x af=>?_⟩;rcases fR.1 af with rfl|af
    ·exact⟨by simp,eR _,by simp;omega,ab⟩
    ·obtain⟨f1,f2,f3,f4⟩:=c2 x af;refine⟨?_,by omega,f3,f4⟩;have:x.1-k=(x.1-(k+1))+1:=by omega
     rw[this];simpa using f1
def uY(acc:List Nat):List Edge→Nat
 |[]=>0
 |e::r=>if Region.binds .any e then(2 ^ e.on)|||(acc.getD e.on 0)|||uY acc r else uY acc r
def r2(acc:List Nat):List Oper→List Nat
 |[]=>acc
 |o::os=>r2 (acc++[uY acc o.after.toList]) os
def DM(m:Nat)(h:c6):Nat→List c6→Bool
 |_,[]=>true
 |i,g::r=>(m.testBit i||zx g h)&&DM m h (i+1) r
def Dx:List c6→List c6→List Nat→Bool
 |_,[],_=>true
 |pre,h::r,m::ms=>DM m h 0 pre&&Dx (pre++[h]) r ms
 |_,_,[]=>false
def BK:Nat→List Oper→Bool
 |_,[]=>true
 |k,o::os=>o.after.toList.all (fun e=> !Region.binds .any e||decide (e.on<k))&&BK (k+1) os
def Bz(gs:List c6)(ops:List Oper):Bool:=BK 0 ops&&Dx [] gs (r2 [] ops)
theorem Li{acc:List Nat}{j:Nat}:∀{es:List Edge},(uY acc es).testBit j=true→∃e∈es,Region.binds .any e=true∧(j=e.on∨(acc.getD e.on 0).testBit j=true)
 |[],h=>by simp[uY]at h
 |e::r,h=>by
  simp only[uY]at h;split at h
  ·rename_i ad;simp only[Nat.testBit_or,lX]at h;rcases h with(h|h)|h
   ·refine⟨e,by simp,ad,.inl ?_⟩;rw[Nat.testBit_two_pow]at h;have cb:e.on=j:=by simpa using h
    exact cb.symm
   ·exact⟨e,by simp,ad,.inr h⟩
   ·obtain⟨fy,J,U⟩:=Li h;exact⟨fy,by simp[J],U⟩
  ·obtain⟨fy,J,U⟩:=Li h;exact⟨fy,by simp[J],U⟩
theorem Lj:∀(os:List Oper) (acc:List Nat) (k:Nat),k<acc.length→(r2 acc os)[k]? =acc[k]?
 |[],acc,k,_=>rfl
 |o::os,acc,k,h=>by simp only[r2];rw[Lj os _ k (by simp;omega),List.getElem?_append_left h]
theorem UE:∀(os:List Oper) (acc:List Nat) (k:Nat) (o:Oper),os[k]? =some o→∃tV,(r2 acc os)[acc.length+k]? =some (uY tV o.after.toList)∧tV.length=acc.length+k∧∀i,i<tV.length→tV[i]? =(r2 acc os)[i]?
 |[],acc,k,o,h=>by simp at h
 |o'::os,acc,0,o,h=>by
  simp only[List.getElem?_cons_zero,dL]at h;subst h;refine⟨acc,?_,by simp,fun i hi=>?_⟩
  ·simp only[r2,Nat.add_zero];rw[Lj os _ _ (by simp)];simp
  ·simp only[r2];rw[Lj os _ i (by simp;omega),List.getElem?_append_left hi]
 |o'::os,acc,k+1,o,h=>by simp only[List.getElem?_cons_succ]at h;obtain⟨tV,J,U,ar⟩:=UE os (acc++[uY acc o'.after.toList]) k o h;refine⟨tV,?_,by rw[U];simp;omega,fun i hi=>by rw[ar i hi];rfl⟩;simp only[r2];rw[show acc.length+(k+1)=(acc++[uY acc o'.after.toList]).length+k from by simp;omega];exact J
def NR(ops:Array Oper)(hE:Array Bool):Prop:= ∀k o,ops[k]? =some o→hE.getD k false=true→∀e∈o.after.toList,Region.binds .any e=true→hE.getD e.on false=true
theorem ahl{ops:Array Oper}{hE:Array Bool}(aQ:NR ops hE):∀(k:Nat) (o:Oper),ops[k]? =some o→(∀e∈o.after.toList,Region.binds .any e=true→hE.getD e.on false=true)→∀j,((r2 [] ops.toList).getD k 0).testBit j=true→hE.getD j false=true:=by
 intro k;induction k using Nat.strongRecOn with
 |_ k bO=>
  intro o ax aw j ae;obtain⟨tV,J,U,ar⟩:=UE ops.toList [] k o (by simpa using ax);simp only[List.length_nil,Nat.zero_add]at J U;rw[List.getD_eq_getElem?_getD,J]at ae;obtain⟨e,he,ad,cw⟩:=Li ae;rcases cw with rfl|cw
  ·exact aw e he ad
  ·by_cases bE:e.on<tV.length
   ·have hm:tV.getD e.on 0=(r2 [] ops.toList).getD e.on 0:=by rw[List.getD_eq_getElem?_getD,ar _ bE,List.getD_eq_getElem?_getD]
    have ab:k<ops.size:=(Array.getElem?_eq_some_iff.1 ax).1;have fW:ops[e.on]? =some ops[e.on]:=Array.getElem?_eq_getElem (by omega);rw[hm]at cw;exact bO e.on (by omega) _ fW (fun fy vQ fV=>aQ e.on _ fW (aw e he ad) fy vQ fV) j cw
   ·rw[List.getD_eq_getElem?_getD,qt (by omega)]at cw;simp at cw
theorem WS{m:Nat}{h:c6}:∀{gs:List c6} {i0:Nat},DM m h i0 gs=true→∀i g,gs[i]? =some g→m.testBit (i0+i)=true∨zx g h=true
 |[],i0,_,i,g,a7=>by simp at a7
 |eI::r,i0,aJ,0,g,a7=>by simp only[DM,cC,lX]at aJ;simp only[List.getElem?_cons_zero,dL]at a7;subst a7;simpa using aJ.1
 |eI::r,i0,aJ,i+1,g,a7=>by simp only[DM,cC]at aJ;have:=WS aJ.2 i g (by simpa using a7);rwa[show i0+1+i=i0+(i+1)from by omega]at this
theorem Vu:∀{gs pre:List c6} {ms:List Nat},Dx pre gs ms=true→∀j h,gs[j]? =some h→∀i g,i<pre.length+j→(pre++gs)[i]? =some g→(ms.getD j 0).testBit i=true∨zx g h=true
 |[],pre,ms,_,j,h,ae,_,_,_,_=>by simp at ae
 |cb::r,pre,[],bG,j,h,ae,_,_,_,_=>by simp[Dx]at bG
 |cb::r,pre,m::ms,bG,j,h,ae,i,g,hi,a7=>by
  simp only[Dx,cC]at bG;cases j with
  |zero=>simp only[List.getElem?_cons_zero,dL]at ae;subst ae;rw[List.getElem?_append_left (by omega)]at a7;simpa using WS bG.1 i g a7
  |succ j=>have:=Vu bG.2 j h (by simpa using ae) i g (by simp;omega) (by simpa using a7);simpa using this
theorem Q9:∀{os:List Oper} {k:Nat},BK k os=true→∀i o,os[i]? =some o→∀e∈o.after.toList,Region.binds .any e=true→e.on<k+i
 |[],k,_,i,o,ax,_,_,_=>by simp at ax
 |o'::os,k,h,0,o,ax,e,he,ad=>by simp only[BK,cC,gn]at h;simp only[List.getElem?_cons_zero,dL]at ax;subst ax;have:=h.1 e he;simpa[ad]using this
 |o'::os,k,h,i+1,o,ax,e,he,ad=>by simp only[BK,cC]at h;have:=Q9 h.2 i o (by simpa using ax) e he ad;omega
theorem Sd{N:Nat}{bB:List (Nat×dF)}{ops:List Oper}:∀{gs:List c6} {os:List Oper},kt N bB ops gs os=true→∀(i:Nat) (g:c6),gs[i]? =some g→∃o,os[i]? =some o∧B2 N bB ops g o=true
 |[],[],_,i,g,h=>by simp at h
 |[],_::_,h,_,_,_=>by simp[kt]at h
 |_::_,[],h,_,_,_=>by simp[kt]at h
 |eI::gs,o::os,h,0,g,a7=>by simp only[kt,cC]at h;simp only[List.getElem?_cons_zero,dL]at a7;subst a7;exact⟨o,by simp,h.1⟩
 |eI::gs,o::os,h,i+1,g,a7=>by simp only[kt,cC]at h;obtain⟨o',J,U⟩:=Sd h.2 i g (by simpa using a7);exact⟨o',by simpa using J,U⟩
theorem JN{N:Nat}{bB:List (Nat×dF)}{ops:List Oper}:∀{gs:List c6} {os:List Oper},kt N bB ops gs os=true→gs.length=os.length
 |[],[],_=>rfl
 |[],_::_,h=>by simp[kt]at h
 |_::_,[],h=>by simp[kt]at h
 |g::gs,o::os,h=>by simp only[kt,cC]at h;simp[JN h.2]
theorem WA{l:Array Bool}:∀(gs:List c6) (k:Nat),rem l k gs=[]∨ ∃i g,i<gs.length∧gs[i]? =some g∧l.getD (k+i) false=false∧∀j,j<i→l.getD (k+j) false=true
 |[],_=>.inl rfl
 |g::r,k=>by
  by_cases h:l.getD k false=true
  ·rcases WA (l:=l) r (k+1)with J|⟨i,eI,J,U,ar,ba⟩
   ·left;simp only[rem,h,if_true,J]
   ·refine .inr ⟨i+1,eI,by simp;omega,by simpa using U,by rw[show k+(i+1)=k+1+i from by omega];exact ar,fun j ae=>?_⟩;cases j with
    |zero=>simpa using h
    |succ j=>rw[show k+(j+1)=k+1+j from by omega];exact ba j (by omega)
  ·exact .inr ⟨0,g,by simp,by simp,by simpa using h,fun j ae=>by omega⟩
theorem YZ{P:cE}{bB:List (Nat×dF)}(aK:fP P bB=true){C:fh}{q:Bool}{n0:Nat}{ops:Array Oper}{gs:List c6}(kx:kt C.N bB ops.toList gs ops.toList=true)(Fu:Bz gs ops.toList=true){K:dh→Prop}{Q:Exit→Act→World→Prop}
  (h0:∀A a w,K A→xg C A a w→Q .normal a w):∀(fuel:Nat) (hE:Array Bool) (A:dh) (a:Act) (w:World),hE.size=ops.size→NR ops hE→(rem hE 0 gs).length≤fuel→vC P q n0 K (rem hE 0 gs) A→xg C A a w→wpAny P .any ops Q fuel hE a w:=by
 simp only[Bz,cC]at Fu;obtain⟨JX,afH⟩:=Fu;have hlen:gs.length=ops.size:=by simpa using JN kx
 have Sz:∀(hE:Array Bool) (A:dh) (a:Act) (w:World),hE.size=ops.size→vC P q n0 K (rem hE 0 gs) A→xg C A a w→Region.ready .any ops hE=[]→Q .normal a w:=by
  intro hE A a w ee sR aJ FU;rcases WA (l:=hE) gs 0 with h|⟨i,g,J,U,ar,ba⟩
  ·rw[h]at sR;exact h0 A a w sR aJ
  ·exfalso;have hi:i<ops.size:=by omega
   have jG:i∈Region.ready .any ops hE:=by
    unfold Region.ready;simp only[nH,List.mem_range,cC,Bool.not_eq_true'];refine⟨hi,?_,?_⟩
    ·rw[Nat.zero_add]at ar;simp only[Array.getD_eq_getD_getElem?]at ar⊢;rw[Array.getElem?_eq_getElem (by omega)]at ar⊢;simpa using ar
    ·rw[Array.getElem?_eq_getElem hi];simp only[oh,ka];rw[←Array.all_toList,gn];intro e he;by_cases ad:Region.binds .any e=true
     ·have bE:=Q9 JX i ops[i] (by simp[hi]) e he ad;have:=ba e.on (by omega);rw[Nat.zero_add]at this;simp[this]
     ·simp[ad]
   rw[FU]at jG;simp at jG
 intro fuel;induction fuel with
 |zero=>
  intro hE A a w ee aQ aL sR aJ;have afB:rem hE 0 gs=[]:=List.eq_nil_of_length_eq_zero (by omega);have FU:Region.ready .any ops hE=[]:=by
   rw[List.eq_nil_iff_forall_not_mem];intro i hi;unfold Region.ready at hi;simp only[nH,List.mem_range,cC,Bool.not_eq_true']at hi;obtain⟨J,U,_⟩:=hi;have ay:hE.getD i false=false:=by simp only[Array.getD_eq_getD_getElem?]at U⊢;rw[Array.getElem?_eq_getElem (by omega)]at U⊢;simpa using U
   obtain⟨oi,pb,g,_,aE,_⟩:=MC (by omega) ay gs 0 (by omega) (by omega);rw[afB]at aE;simp at aE
  exact⟨FU,Sz hE A a w ee sR aJ FU⟩
 |succ fuel bO=>
  intro hE A a w ee aQ aL sR aJ;refine⟨Sz hE A a w ee sR aJ,fun i hi=>?_⟩;unfold Region.ready at hi;simp only[nH,List.mem_range,cC,Bool.not_eq_true']at hi;obtain⟨J,U,ar⟩:=hi;have ay:hE.getD i false=false:=by simp only[Array.getD_eq_getD_getElem?]at U⊢;rw[Array.getElem?_eq_getElem (by omega)]at U⊢;simpa using U
  have ax:ops[i]? =some ops[i]:=Array.getElem?_eq_getElem J;have SB:∀e∈ops[i].after.toList,Region.binds .any e=true→hE.getD e.on false=true:=by rw[ax]at ar;simp only[oh,ka]at ar;rw[←Array.all_toList,gn]at ar;intro e he ad;simpa[ad]using ar e he
  obtain⟨oi,pb,g,ak,aE,bj,c2⟩:=MC (by omega) ay gs 0 (by omega) (by omega);simp only[Nat.sub_zero]at ak c2;rw[aE]at sR;obtain⟨x,af,aeN⟩:=OA oi pb A (fun y aM=>by
   obtain⟨f1,f2,f3,f4⟩:=c2 y aM;rcases Vu afH i g ak y.1 y.2 (by simpa using f3) (by simpa using f1)with h|h
   ·have:=ahl aQ i ops[i] ax SB y.1 h;rw[f4]at this;cases this
   ·exact h) sR
  obtain⟨o',g1,g2⟩:=Sd kx i g ak;have:o'=ops[i]:=by rw[tL,ax]at g1;exact(eE g1).symm
  subst this;refine YA aK ax g2 af aJ fun bp w' dH=>?_;refine bO (hE.setIfInBounds i true) (A.do x) bp w' (by simpa using ee) ?_ ?_ (by rw[bj];exact aeN) dH
  ·intro k o ab aw e he ad;rw[Fk (by omega)]at aw⊢;split
   ·rfl
   ·by_cases vS:i=k
    ·subst vS;rw[ax]at ab;cases ab;exact SB e he ad
    ·rw[if_neg vS]at aw;exact aQ k o ab aw e he ad
  ·rw[bj];rw[aE]at aL;simp at aL⊢;omega
def xE(n0 d:Nat)(st:bs):Prop:= .loc (n0+d)∉st.o∧look (.loc (n0+d)) st.b=none∧look (.loc (n0+d)) st.e=none
def fS.loadO(q:Bool)(t:List (Nat×ah)):fS→Prop
 | .load _ _ x=>q=true∨yc (cr t x)=true
 | .loadB _ _ _=>True
 | .mgetB _ _ _ _ _=>True
 | .mget _ _ _ _ _=>q=true
 | .ment _=>q=true
 | .mlen _=>q=true
 |_=>True
def l3(q:Bool)(nw:List Nat)(n0:Nat)(st:bs):eo→Prop
 | .v _ i=>i.loadO q st.t
 | .box d none _=>xE n0 d st
 | .alloc d none _=>xE n0 d st
 | .box _ (some _) _=>eQ
 | .alloc _ (some _) _=>eQ
 | .store _ x _=>match cr st.t x with| .ptr _ _=>True|_=>eQ
 | .bslm _ _ _ _ _=>eQ
 | .mks _ _ _ _ _ _=>eQ
 | .appm _ _ _ _ x _=>match cr st.t x with| .row _ _ _=>True|_=>eQ
 | .storeE _ _ _=>True
 | .mkmap _ none=>eQ
 | .mkmap _ (some m)=>m∈nw∧look (.obj m) st.b=none∧look (.obj m) st.e=none
 | .mput _ _ _ _=>True
 | .range _ _ _=>eQ
 | .bsl d _ _ _=>xE n0 d st
 | .app d _ _ x _=>match cr st.t x with
  | .slice _ .nil _=>xE n0 d st
  | .slice _ (.own k) _=>(look k st.e).bind (·.xs)=none
  |_=>True
def pk(n0:Nat):eo→aI
 | .mkmap _ (some m)=>.obj m
 | .v d _| .box d _ _| .alloc d _ _| .bsl d _ _ _| .app d _ _ _ _| .bslm d _ _ _ _| .appm d _ _ _ _ _| .mkmap d _| .range d _ _| .mks d _ _ _ _ _=>.loc (n0+d)
 | .store _ _ _| .mput _ _ _ _| .storeE _ _ _=>.loc n0
def agS(nw:List Nat)(st:bs)(s ai:cK)(rm:aZ aI):Prop:=(∀k,(look k ai.b).isSome→(look k s.b).isSome∨rm=some k)∧(∀k,(look k ai.e).isSome→(look k s.e).isSome∨rm=some k)∧(∀k,(look k s.b).isSome→(look k ai.b).isSome)∧(∀k,(look k s.e).isSome→(look k ai.e).isSome)∧
 (∀k,rm=some k→(∃j,j∈nw∧k= .obj j)∧look k st.b=none∧look k st.e=none∧((look k ai.b).isSome∨(look k ai.e).isSome))
def h6(P:cE)(q:Bool)(nw:List Nat)(n:Nat)(args:List ah)(st:bs)(d:aZ Nat)(K:bs→Prop):Prop:=
 (∃cG r,d=some cG∧xE st.n cG st∧aH (fun _=>eQ) args∧HX P n (st.n+cG) args ⟨[],[]⟩ (fun eF dO=>eF=r∧dO=⟨[],[]⟩)∧K {st with t:=put cG r st.t,o:= .loc (st.n+cG)::st.o})∨
 ∃s ai r rm,gG (inObs s) s.b st.b∧oV (inObs s) s.e st.e∧iQ s∧iQ ai∧agS nw st s ai rm∧aH (inObs s) args∧bU P n args s (fun eF dO=>eF=r∧dO=ai)∧(q=true→ai.b=[]∧ai.e=[])∧K {after st s ai d r with o:=st.o}
def kr(P:cE)(q:Bool)(nw:List Nat)(n0:Nat)(st:bs)(K:bs→Prop):ei→Prop
 | .s i=>match eA (pk n0 i) st.n (pk n0 i::st.o) st i with
  |some (c,st')=>l3 q nw n0 st i∧c∧K st'
  |none=>eQ
 | .call d f xs=>match cr st.t f with
  | .func n dj=>h6 P q nw n (cR (xs.map (cr st.t)++dj)) st d K
  |_=>eQ
 | .next _ _=>eQ
def hQ(P:cE)(q:Bool)(nw:List Nat)(n0:Nat):List c6→bs→(bs→Prop)→Prop
 |[],st,K=>K st
 |⟨none,i⟩::r,st,K=>kr P q nw n0 st (fun st'=>hQ P q nw n0 r st' K) i
 |⟨some (s,want),i⟩::r,st,K=>match get s st.t with
  | .bool b=>(b=want→kr P q nw n0 {st with t:=put s (.bool want) st.t} (fun st'=>hQ P q nw n0 r st' K) i)∧(b= !want→hQ P q nw n0 r {st with t:=eM i.dst (.tuple []) (put s (.bool !want) st.t)} K)
  | .tuple []=>hQ P q nw n0 r {st with t:=eM i.dst (.tuple []) st.t} K
  |_=>eQ
structure sx (nw:List Nat) (n0 N:Nat) (pI:List aI) (st:bs) (A:dh):Prop where
 like:lu st A
 n:st.n=n0
 F:∀k,fresh n0 st.o k→(∀j∈nw,k≠ .obj j)→A.F k
 o:∀k∈st.o,k∈pI∨(∃d,d<N∧k= .loc (n0+d))∨ ∃j∈nw,k= .obj j
def Bs(nw:List Nat)(A:dh):Prop:= ∀j∈nw,A.b (.obj j)=none→A.e (.obj j)=none→A.F (.obj j)
theorem Bs.do{P:cE}{q:Bool}{n0:Nat}{nw:List Nat}{A:dh}(h:Bs nw A){g:c6}{x:kR}(af:kS P q n0 g A x):Bs nw (A.do x):=by
 intro j ae ad he;refine⟨h j ae (I1 ad) (I2 he),fun qK=>?_⟩;rcases(Nh af).r _ qK with⟨d,_,e⟩|⟨_,_,ag⟩
 ·cases e
 ·rcases ag with ag|ag
  ·obtain⟨y,aM⟩:=fM.1 ag;simp[dh.do,iy,aM]at ad
  ·obtain⟨y,aM⟩:=fM.1 ag;simp[dh.do,iy,aM]at he
theorem Ri{P:cE}{q:Bool}{nw:List Nat}{n0 N:Nat}{pI:List aI}{i:ei}(aQ:∀d,i.dst=some d→d<N){st:bs}{A:dh}(h:sx nw n0 N pI st A)(oB:Bs nw A){K:bs→Prop}(he:kr P q nw n0 st K i):∃x st',et P q n0 i A x∧K st'∧sx nw n0 N pI st' (A.do x):=by
 have aw:=h.like;have xQ:∀d,xE n0 d st→(A.F (.loc (n0+d))∧A.b (.loc (n0+d))=none∧A.e (.loc (n0+d))=none):=fun d aL=>⟨h.F _ ⟨by simp,aL.1⟩ (fun _ _ e=>by cases e),by rw[←aw.b];exact aL.2.1,by rw[←aw.e];exact aL.2.2⟩;have nb:∀(d:aZ Nat) (p:ah) (bw:List (aI×List ah)) (ew:List (aI×fN)) (κ:aI),∀k,fresh n0 (κ::st.o) k→(∀j∈nw,k≠ .obj j)→(A.do ⟨d,p,bw,ew,some κ⟩).F k:=fun d p bw ew κ k ab ae=>⟨h.F k (vH k ab).1 ae,fun e=>(vH k ab).2 (eE e).symm⟩;have xI:∀(d:aZ Nat) (p:ah) (bw:List (aI×List ah)) (ew:List (aI×fN)),∀k,fresh n0 st.o k→(∀j∈nw,k≠ .obj j)→(A.do ⟨d,p,bw,ew,none⟩).F k:=fun d p bw ew k ab ae=>⟨h.F k ab ae,by simp⟩;have lG:∀d,d<N→∀k∈aI.loc (n0+d)::st.o,k∈pI∨(∃d,d<N∧k= .loc (n0+d))∨ ∃j∈nw,k= .obj j:=fun d aQ k ab=>by
  rcases fR.1 ab with rfl|ab
  ·exact .inr (.inl ⟨d,aQ,rfl⟩)
  ·exact h.o k ab
 cases i with
 |s i=>
  cases i with
  |v d i=>
   simp only[kr,eA]at he;cases aF:hj st i with
   |none=>simp[aF]at he
   |some IY=>
    obtain⟨c,p⟩:=IY;simp only[aF]at he;obtain⟨J,U,ar⟩:=he;refine⟨⟨some d,p,[],[],none⟩,_,⟨c,p,by rw[←XB aw];exact aF,U,fun nT=>?_,rfl⟩,ar,La aw d p,h.n,xI _ _ _ _,h.o⟩;cases i<;>simp only[fS.isLoad]at nT<;>try(cases nT;done)
    case mget=>exact .inr (.inl J)
    case ment=>exact .inr (.inl J)
    case mlen=>exact .inr (.inl J)
    case loadB=>exact .inl rfl
    case mgetB=>exact .inl rfl
    simp only[l3,fS.loadO,iJ aw]at J;exact .inr (by simpa only[fS.ptrOf]using J)
  |box d key v=>
   cases key with
   |some m=>simp only[kr,eA,l3,false_and]at he
   |none=>simp only[kr,eA,l3,pk]at he;obtain⟨J,U,ar⟩:=he;rw[iJ aw]at U;refine⟨_,_,⟨xQ d J,U,rfl⟩,ar,?_,h.n,nb _ _ _ _ _,lG d (aQ d rfl)⟩;rw[iJ aw];exact Ap aw d _ _ _ _ _ _
  |alloc d key z=>
   cases key with
   |some m=>simp only[kr,eA,l3,false_and]at he
   |none=>simp only[kr,eA,l3,pk]at he;obtain⟨J,U,ar⟩:=he;exact⟨_,_,⟨xQ d J,rfl⟩,ar,Ap aw d _ _ _ _ _ _,h.n,nb _ _ _ _ _,lG d (aQ d rfl)⟩
  |store sz u v=>
   simp only[kr,eA]at he;cases hu:cr st.t u with
   |ptr k off=>
    cases ad:look k st.b with
    |none=>simp[hu,ad]at he
    |some cs=>simp only[hu,ad]at he;obtain⟨J,U,ar⟩:=he;rw[iJ aw]at U hu;refine⟨⟨none,.junk,[(k,n3 cs off (cells (dy A.t v)))],[],none⟩,_,⟨k,off,cs,hu,by rw[←aw.b];exact ad,U,rfl⟩,ar,?_,h.n,xI _ _ _ _,h.o⟩;rw[iJ aw];exact Gp aw k _ _
   |_=>
    exfalso;simp only[hu]at he;split at he
    ·have:=he.1;simp[l3,hu]at this
    ·exact he
  |bsl d sz el xs=>simp only[kr,eA,l3,pk]at he;obtain⟨J,U,ar⟩:=he;rw[ug aw]at U;refine⟨_,_,⟨xQ d J,U,rfl⟩,ar,?_,h.n,nb _ _ _ _ _,lG d (aQ d rfl)⟩;rw[ug aw];exact wA aw d _ _ _ _ _ _
  |app d sz el u v=>
   simp only[kr,eA]at he;cases hu:cr st.t u with
   |slice dI tag xs=>
    cases aF:cr st.t v with
    |slice jk k1 ys=>
     simp only[hu,aF]at he;by_cases fc:dI=sz∧jk=sz
     ·obtain⟨rfl,rfl⟩:=fc;rw[iJ aw]at hu aF;cases tag with
      |no=>simp at he
      |tr k j=>simp at he
      |lo k=>simp at he
      |nil=>simp only[and_self,if_true,l3,iJ aw,hu,pk]at he;obtain⟨J,U,ar⟩:=he;exact⟨_,_,⟨.nil,xs,k1,ys,hu,aF,.inr ⟨rfl,U,xQ d J,rfl⟩⟩,ar,wA aw d _ _ _ _ _ _,h.n,nb _ _ _ _ _,lG d (aQ d rfl)⟩
      |own k=>
       cases ab:look k st.e with
       |none=>simp[ab]at he
       |some o=>simp only[and_self,if_true,ab]at he;obtain⟨J,U,ar⟩:=he;exact⟨_,_,⟨.own k,xs,k1,ys,hu,aF,.inl ⟨k,o,rfl,by rw[←aw.e];exact ab,⟨by simpa[l3,iJ aw,hu,ab]using J,U⟩,rfl⟩⟩,ar,wA aw d _ _ _ _ _ _,h.n,xI _ _ _ _,h.o⟩
     ·simp[fc]at he
    |_=>simp[hu,aF]at he
   |_=>simp[hu]at he
  |bslm d key sz el xs=>simp only[kr,eA,l3,false_and]at he
  |mks d key sz el z x=>simp only[kr,eA,l3,false_and]at he;split at he<;>simp at he
  |appm d key sz el u v=>
   simp only[kr,eA]at he;cases hu:cr st.t u with
   |row dI k n=>
    cases aF:cr st.t v with
    |slice jk k1 ys=>
     simp only[hu,aF,sE]at he;by_cases fc:dI=sz∧jk=sz
     ·obtain⟨rfl,rfl⟩:=fc;rw[iJ aw]at hu aF;simp only[and_self,if_true]at he;cases ab:look k st.e with
      |none=>simp[ab]at he
      |some o=>
       obtain⟨n',fT,wZ,LZ⟩:=o;cases LZ with
       |none=>simp[ab]at he
       |some xs=>
        simp only[ab]at he;by_cases xM:n'=n∧fT=el∧wZ=jk
        ·obtain⟨rfl,rfl,rfl⟩:=xM;simp only[and_self,if_true]at he;obtain⟨J,U,ar⟩:=he;exact⟨_,_,⟨k,n',xs,k1,ys,hu,aF,by rw[←aw.e];exact ab,U,rfl⟩,ar,wA aw d _ _ _ _ _ _,h.n,xI _ _ _ _,h.o⟩
        ·simp[xM]at he
     ·simp[fc]at he
    |_=>simp[hu,aF,sE]at he
   |slice dI tag xs=>
    exfalso;simp only[hu]at he;split at he
    ·have:=he.1;simp[l3,hu]at this
    ·exact he
   |_=>simp[hu,sE]at he
  |storeE sz u v=>
   simp only[kr,eA]at he;cases hu:cr st.t u with
   |rptr dI k n i f=>
    cases ab:look k st.e with
    |none=>simp[hu,q8,ab]at he
    |some o=>
     obtain⟨n',el,wZ,LZ⟩:=o;cases LZ with
     |none=>simp[hu,q8,ab]at he
     |some xs=>
      simp only[hu,q8,ab]at he;by_cases xM:n'=n∧wZ=dI
      ·obtain⟨rfl,rfl⟩:=xM;simp only[and_self,if_true]at he;cases bo:xs[i]? with
       |none=>simp[bo]at he
       |some q=>simp only[bo]at he;obtain⟨J,U,ar⟩:=he;rw[iJ aw]at U hu;refine⟨⟨none,.junk,[],[(k,⟨n',el,wZ,some (xs.set i (mN q f (cells (dy A.t v))))⟩)],none⟩,_,⟨k,n',i,f,el,wZ,xs,q,hu,by rw[←aw.e];exact ab,bo,U,rfl⟩,ar,?_,h.n,xI _ _ _ _,h.o⟩;rw[iJ aw];exact Uw aw k _ _
      ·simp[xM]at he
   |_=>simp[hu,q8]at he
  |mkmap d key=>
   cases key with
   |none=>simp only[kr,eA,l3,false_and]at he
   |some m=>
    simp only[kr,eA,l3,pk]at he;obtain⟨⟨bn,J,U⟩,_,ar⟩:=he;rw[aw.b]at J;rw[aw.e]at U;refine⟨_,_,⟨⟨oB m bn J U,J,U⟩,rfl⟩,ar,Ap aw d _ _ _ _ _ _,h.n,nb _ _ _ _ _,fun k ab=>?_⟩;rcases fR.1 ab with rfl|ab
    ·exact .inr (.inr ⟨m,bn,rfl⟩)
    ·exact h.o k ab
  |mput ch u k v=>
   simp only[kr,eA,l3]at he;cases hu:cr st.t u with
   |gmap m=>
    cases ad:look m st.b with
    |none=>simp[hu,ad]at he
    |some cs=>
     cases hm:oO ch (cr st.t k) (cr st.t v) cs with
     |none=>simp[hu,ad,hm]at he
     |some cs'=>simp only[hu,ad,hm]at he;rw[iJ aw]at hu;rw[iJ aw,iJ aw]at hm;exact⟨⟨none,.junk,[(m,cs')],[],none⟩,_,⟨m,cs,cs',hu,by rw[←aw.b];exact ad,hm,rfl⟩,he.2.2,Gp aw m _ _,h.n,xI _ _ _ _,h.o⟩
   |_=>simp[hu]at he
  |range d key x=>simp only[kr,l3,false_and]at he;split at he<;>exact he.elim
 |next d x=>simp only[kr]at he
 |call d f xs=>
  simp only[kr]at he;cases aL:cr st.t f with
  |func n dj=>
   simp only[aL]at he;rw[iJ aw]at aL;rcases he with⟨cG,r,rfl,bL,cp,dc,ix⟩|⟨s,ai,r,rm,bL,cp,dc,ix,l1,pg,BE,Zs,Zt⟩
   ·rw[ug aw]at cp dc;have ay:=h.n;subst ay;refine⟨⟨some cG,r,[],[],some (.loc (st.n+cG))⟩,_,⟨n,dj,aL,.inr ⟨cG,r,rfl,xQ cG bL,cp,dc,rfl⟩⟩,ix,Ux aw cG r _ _,rfl,nb _ _ _ _ _,lG cG (aQ cG rfl)⟩
   rw[ug aw]at pg BE;obtain⟨aU,bC,cf,eZ,de⟩:=l1;refine⟨⟨d,r,ai.b,ai.e,rm⟩,_,⟨n,dj,aL,.inl ⟨⟨s,ai,r,rm,fun k cs ab=>⟨by rw[←aw.b];exact(bL k cs ab).1,(bL k cs ab).2.2⟩,fun k o ab=>⟨by rw[←aw.e];exact(cp k o ab).1,(cp k o ab).2.2⟩,dc,ix,⟨aU,bC,cf,eZ,fun k ab=>?_⟩,pg,BE,rfl⟩,Zs⟩⟩,Zt,⟨fun i=>?_,fun k=>?_,fun k=>?_⟩,h.n,fun k ab ae=>⟨h.F k ab ae,fun qK=>?_⟩,h.o⟩
   ·obtain⟨⟨j,ae,rfl⟩,aE,bj,c2⟩:=de k ab;rw[aw.b]at aE;rw[aw.e]at bj;exact⟨⟨j,rfl⟩,oB j ae aE bj,aE,bj,c2⟩
   ·simp only[after,dh.do];cases d with
    |none=>simpa[eM]using aw.t i
    |some d=>simp only[eM,pz,dL,aw.t]
   ·simp only[after,dh.do,iy,yl,uX];by_cases ag:(look k s.b).isSome
    ·have:=cf k ag;obtain⟨y,aM⟩:=fM.1 this;simp[ag,aM]
    ·cases ay:look k ai.b with
     |none=>simp only[ag,aw.b];cases A.b k<;>simp
     |some y=>
      rcases aU k (by simp[ay])with h|h
      ·exact absurd h ag
      ·have:=de k h;simp[ag,this]
   ·simp only[after,dh.do,iy,yl,uX];by_cases ag:(look k s.e).isSome
    ·have:=eZ k ag;obtain⟨y,aM⟩:=fM.1 this;simp[ag,aM]
    ·cases ay:look k ai.e with
     |none=>simp only[ag,aw.e];cases A.e k<;>simp
     |some y=>
      rcases bC k (by simp[ay])with h|h
      ·exact absurd h ag
      ·have:=de k h;simp[ag,this]
   ·obtain⟨⟨j,js,rfl⟩,_⟩:=de k qK;exact ae j js rfl
  |_=>simp[aL]at he
def zp(N:Nat):List c6→Bool
 |[]=>true
 |g::r=>jo N g.i.dst&&zp N r
def y2:Nat→List c6→List (Nat×c6)
 |_,[]=>[]
 |k,g::r=>(k,g)::y2 (k+1) r
theorem N8{nw:List Nat}{n0 N:Nat}{pI:List aI}{st:bs}{A:dh}(h:sx nw n0 N pI st A){s:Nat}{p:ah}(ag:get s st.t=p):sx nw n0 N pI {st with t:=put s p st.t} A:=by
 refine⟨⟨fun i=>?_,h.like.b,h.like.e⟩,h.n,h.F,h.o⟩;simp only[pz];split
 ·rename_i e;subst e;rw[←ag];exact h.like.t _
 ·exact h.like.t i
theorem N9{nw:List Nat}{n0 N:Nat}{pI:List aI}{st:bs}{A:dh}(h:sx nw n0 N pI st A)(d:aZ Nat):sx nw n0 N pI {st with t:=eM d (.tuple []) st.t} (A.do (lq d)):=by
 refine⟨⟨fun i=>?_,fun k=>?_,fun k=>?_⟩,h.n,fun k ab ae=>⟨h.F k ab ae,by simp[lq]⟩,h.o⟩
 ·simp only[dh.do,lq];cases d with
  |none=>simpa[eM]using h.like.t i
  |some d=>simp only[eM,pz,dL,h.like.t]
 ·simpa[dh.do,iy,look,lq]using h.like.b k
 ·simpa[dh.do,iy,look,lq]using h.like.e k
theorem BN{P:cE}{q:Bool}{nw:List Nat}{n0 N:Nat}{pI:List aI}{K:bs→Prop}:∀(gs:List c6) (k:Nat),zp N gs=true→∀(st:bs) (A:dh),sx nw n0 N pI st A→Bs nw A→hQ P q nw n0 gs st K→vC P q n0 (fun gj=> ∃st',K st'∧sx nw n0 N pI st' gj) (y2 k gs) A
 |[],k,_,st,A,h,_,he=>⟨st,he,h⟩
 |⟨na,i⟩::r,k,aQ,st,A,h,oB,he=>by
  simp only[zp,cC]at aQ;have sS:∀d,i.dst=some d→d<N:=fun d e=>by have:=aQ.1;rw[e]at this;simpa[jo]using this
  simp only[y2,vC];cases na with
  |none=>simp only[hQ]at he;obtain⟨x,st',J,U,ar⟩:=Ri sS h oB he;have a7:kS P q n0 ⟨none,i⟩ A x:=J;exact⟨x,a7,BN r (k+1) aQ.2 st' _ ar (oB.do a7) U⟩
  |some yR=>
   obtain⟨s,want⟩:=yR;simp only[hQ]at he;split at he
   ·rename_i b ad;by_cases e:b=want
    ·subst e;obtain⟨x,st',J,U,ar⟩:=Ri sS (N8 h ad) oB (he.1 rfl);have a7:kS P q n0 ⟨some (s,b),i⟩ A x:=by unfold kS;simp only[←h.like.t,ad];exact .inl ⟨trivial,J⟩
     exact⟨x,a7,BN r (k+1) aQ.2 st' _ ar (oB.do a7) U⟩
    ·have fV:b= !want:=by cases b<;>cases want<;>simp at e⊢
     subst fV;have a7:kS P q n0 ⟨some (s,want),i⟩ A (lq i.dst):=by unfold kS;simp only[←h.like.t,ad];exact .inr ⟨trivial,trivial⟩
     exact⟨lq i.dst,a7,BN r (k+1) aQ.2 _ _ (N9 (N8 h ad) i.dst) (oB.do a7) (he.2 rfl)⟩
   ·rename_i ad;have a7:kS P q n0 ⟨some (s,want),i⟩ A (lq i.dst):=by unfold kS;simp only[←h.like.t,ad]
    exact⟨lq i.dst,a7,BN r (k+1) aQ.2 _ _ (N9 h i.dst) (oB.do a7) he⟩
   ·exact he.elim
theorem MB:∀(gs:List c6) (l:Array Bool) (k:Nat),(∀j,l.getD j false=false)→rem l k gs=y2 k gs
 |[],_,_,_=>rfl
 |g::r,l,k,h=>by simp only[rem,h k,y2,MB r l (k+1) h];simp
def tN(n:Nat)(o:List aI)(K:bs→Prop)(st:bs):Prop:=K {st with n:=n,o:=o}
theorem Good.like{pr:Nat→Prop}{w:World}{ν:bf}{b b5:List (aI×List ah)}{e fy:List (aI×fN)}(h:Good pr w ν b e)(ad:∀k,look k b5=look k b)(he:∀k,look k fy=look k e):Good pr w ν b5 fy:=
 ⟨h.alt,fun k cs ab=>h.box k cs (by rw[←ad];exact ab),fun k bS bl J U=>h.inj k bS bl (by rw[←ad];exact J) (by rw[←ad];exact U),fun g o a7=>h.own g o (by rw[←he];exact a7),
  fun g eI n n' v v' bl J U=>h.oinj g eI n n' v v' bl (by rw[←he];exact J) (by rw[←he];exact U),fun g k n v bl J U=>h.obx g k n v bl (by rw[←he];exact J) (by rw[←ad];exact U),h.one,
  fun bl aK=>h.otr bl (aK.imp (fun⟨k,bD,a2⟩=>⟨k,by rw[←ad];exact bD,a2⟩) (fun⟨g,n,v,bD,a2⟩=>⟨g,n,v,by rw[←he];exact bD,a2⟩))⟩
theorem Rk{P:cE}(hm:P.follows .mixedOrders=true){bB:List (Nat×dF)}(aK:fP P bB=true){C:fh}{q:Bool}{nw:List Nat}{id:Nat}{ops:Array Oper}{gs:List c6}(kx:kt C.N bB ops.toList gs ops.toList=true)(Fu:Bz gs ops.toList=true)(iK:zp C.N gs=true)
  {K:bs→Prop} {Q:Exit→Act→World→Prop} (h0:∀st' bp w' bq,K st'→cU C st' bp w' bq→Q .normal bp w') {st:bs} {a:Act} {w:World} {ν:bf} (afE:∀j∈nw,.obj j∉st.o) (he:hQ P q nw st.n gs st (tN (st.n+C.N) (nw.map aI.obj++st.o) K)) (aJ:cU C st a w ν):(Code.region id ops true).wp P Q a w:=by
 refine wp_region_any hm ?_;have dH:cU C st a {w with drawn:=w.drawn+1} ν:=aJ.drawn _;let A:dh:=⟨fun i=>get i st.t,fun k=>look k st.b,fun k=>look k st.e,fresh st.n st.o⟩
 have qN:sx nw st.n C.N st.o st A:=⟨⟨fun _=>rfl,fun _=>rfl,fun _=>rfl⟩,rfl,fun k ab _=>ab,fun k ab=>.inl ab⟩;have sR:=BN gs 0 iK st A qN (fun j ae _ _=>⟨trivial,afE j ae⟩) he;have oF:∀j,(Array.replicate ops.size false).getD j false=false:=fun j=>by simp[Array.getD_eq_getD_getElem?,Array.getElem?_replicate];split<;>rfl
 refine YZ aK kx Fu (q:=q) (n0:=st.n) (K:=fun gj=> ∃st',tN (st.n+C.N) (nw.map aI.obj++st.o) K st'∧sx nw st.n C.N st.o st' gj) ?_ ops.size _ A a _ (by simp) ?_ ?_ (by rw[MB gs _ 0 oF];exact sR) ⟨st,ν,qN.like,fun k ab=>ab,dH⟩
 ·rintro gj bp w' ⟨st',ab,bz⟩ ⟨atg,bq,nS,B7,lI⟩;refine h0 _ bp w' bq ab ⟨lI.good.like (fun k=>by rw[nS.b,←bz.like.b]) (fun k=>by rw[nS.e,←bz.like.e]),lI.fr,lI.defers,lI.size,fun i=>?_,fun k zR=>?_⟩
  ·have:=lI.slot i;rw[nS.t,←bz.like.t]at this;exact this
  ·refine lI.new k (B7 k (bz.F k ?_ fun j ae e=>zR.2 (by subst e;exact List.mem_append_left _ (List.mem_map_of_mem ae))));simp only at zR;refine⟨(JA (Nat.le_add_right st.n C.N) (fun _ h=>h) zR).1,fun jG=>?_⟩;rcases bz.o k jG with h|⟨d,aQ,rfl⟩|⟨j,ae,rfl⟩;rotate_left 2
   ·exact zR.2 (List.mem_append_left _ (List.mem_map_of_mem ae))
   ·exact zR.2 (List.mem_append_right _ h)
   ·have:=zR.1;simp at this;omega
 ·intro k o ab aw;rw[oF]at aw;cases aw
 ·rw[MB gs _ 0 oF];have:∀(gs:List c6) k,(y2 k gs).length=gs.length:=by
   intro gs;induction gs with
   |nil=>intro k;rfl
   |cons g r bO=>intro k;simp[y2,bO]
  rw[this];have:=JN kx;simp at this;omega
def ep:List ah→Prop
 |[]=>True
 |p::cx=>(match p with| .slice _ _ xs=>xs.length≤lim| .str s=>s.length≤lim|_=>True)∧ep cx
def ed:ah→Prop
 | .slice _ _ xs=>xs.length≤lim
 | .str s=>s.length≤lim
 | .agg cs=>ep cs
 |_=>True
def eu:List ah→Prop
 |[]=>True
 |p::r=>ed p∧eu r
theorem ME{w:World}{ν:bf}:∀{cs:List ah} {us:List Value},c7 w ν cs us→ep cs
 |[],_,_=>trivial
 |c::cs,us,h=>by
  simp only[c7]at h;obtain⟨u,cn,_,J,U⟩:=h;refine⟨?_,ME U⟩;cases c<;>simp only<;>have ar:=J.1<;>simp only[bc]at ar
  ·exact ar.2
  ·obtain⟨⟨a,cap,_,_,ba,_⟩,_⟩:=ar;exact ba.2
theorem WB{w:World}{ν:bf}{cs:List ah}{us:List Value}(h:ji w ν cs us):hU cs=true→ep cs:=fun bG=>by rw[u4 bG]at h;exact ME h
theorem WO{w:World}{ν:bf}{p:ah}{v:Value}(h:bc w ν p v):ed p:=by
 cases p<;>simp only[ed]<;>simp only[bc]at h
 ·exact h.2
 ·obtain⟨⟨a,cap,_,_,ba,_⟩,_⟩:=h;exact ba.2
 ·obtain⟨us,_,U⟩:=h;exact ME U
theorem WM{w:World}{ν:bf}:∀{cs:List ah} {us:List Value},cQ w ν cs us→eu cs
 |[],_,_=>trivial
 |c::cs,us,h=>by simp only[cQ]at h;obtain⟨u,cn,_,J,U⟩:=h;exact⟨WO J,WM U⟩
inductive C where
 |skip
 |region (gs:List c6)
 |drawn (q:Bool) (N:Nat) (gs:List c6)
 |drawnW (nw:List Nat) (N:Nat) (gs:List c6)
 |seq (a b:C)
 |cond (x:dr) (t e:C)
 |block (id:Nat) (c:C)
 |loop (c:C)
 |exit (id:Nat)
 |ret
 |pub (s:Nat) (c:C)
 |pubB (s:Nat) (c:C)
 |fg (pF:Bool) (s:Nat) (c:C)
 |fz (agg:Bool) (s:Nat) (c:C)
 |no
def DA(st:bs):ah→aZ (ah×List (aI×fN))
 | .row sz k n=>match look k st.e with
  |some ⟨n',el,dI,some xs⟩=>if n'=n∧dI=sz then some (.slice sz (.own k) xs,cB k ⟨n,el,sz,none⟩ st.e)else none
  |_=>none
 |_=>none
def wN(st:bs)(s:Nat):aZ bs:=
 match DA st (get s st.t)with
 |some (p,e)=>some {st with t:=put s p st.t,e:=e}
 |none=>none
def wM(st:bs)(s:Nat):aZ bs:=
 match get (s%1000) st.t with
 | .ptr k off=>match look k st.b with
  |some cs=>match cs[off+s/1000]? with
   |some p=>match DA st p with
    |some (AK,e)=>if hU cs then some {st with b:=cB k (cs.set (off+s/1000) AK) st.b,e:=e}else none
    |none=>none
   |none=>none
  |none=>none
 |_=>none
theorem MA{C:fh}{st:bs}{a:Act}{w:World}{ν:bf}(h:cU C st a w ν){s:Nat}{p:ah}(ag:bc w ν p (a.tmps.getD s undef)):cU C {st with t:=put s p st.t} a w ν:=by
 refine⟨h.good,h.fr,h.defers,h.size,fun i=>?_,h.new⟩;have:=h.slot i;simp only[pz];split
 ·rename_i e;subst e;exact ag
 ·exact this
theorem VA{C:fh}{st:bs}{a:Act}{w:World}{ν:bf}(h:cU C st a w ν){p AK:ah}{e:List (aI×fN)}{v:Value}(bG:bc w ν p v)(he:DA st p=some (AK,e)):
  ∃bq,cU C {st with e:=e} a w bq∧bc w bq AK v∧lv w ν w bq:=by
 unfold DA at he;split at he
 ·rename_i sz k n;split at he
  ·rename_i n' el dI xs ab;split at he
   ·rename_i au;obtain⟨rfl,rfl⟩:=au;cases he;simp only[bc]at bG;obtain⟨_,aw,n0,u,J,U,ar⟩:=bG;obtain⟨v0,fv,a8,bF,b0,c0⟩:=h.good.own k _ ab;rw[J]at a8;simp only[dL,jy]at a8;obtain⟨rfl,rfl⟩:=a8;have aF:v=u:=ar rfl;subst aF;obtain⟨da,_,_⟩:=c0 xs rfl;simp only at da;obtain⟨g1,g2⟩:=h.publish ab rfl J (by rw[da];exact aw);refine⟨_,g1,g2,⟨fun b o bk=>⟨.inl bk,rfl⟩,fun j b _ ae=>ae,fun g n u _ iL=>⟨n,u,?_,.inl ⟨rfl,rfl⟩⟩,fun _ _ _=>rfl,fun _ _ _ _ h=>h⟩⟩;simp only[bf.withRowOf];split
    ·rename_i e;subst e;rw[J]at iL;exact iL
    ·exact iL
   ·cases he
  ·cases he
 ·cases he
def zv(pF:Bool):ah→ah
 | .slice sz tag xs=>.slice sz (if pF then tag else .no) (cR xs)
 |p=>dm p
theorem adu{w:World}{ν:bf}{pF:Bool}{p:ah}{v:Value}(h:bc w ν p v):bc w ν (zv pF p) v:=by
 have J:=yI p v h;cases p with
 |slice sz tag xs=>
  simp only[zv];cases pF with
  |false=>simpa only[gX,if_false,dm]using J
  |true=>
   simp only[if_true];simp only[bc,dm]at h J⊢;refine⟨J.1,fun e=>h.2.1 e,fun g e=>?_,fun k j e=>?_,fun k e=>?_⟩
   ·obtain⟨n,u,ak,aE,bj⟩:=h.2.2.1 g e;exact⟨n,u,ak,by rw[vl];exact aE,by rw[vl];exact bj⟩
   ·exact RS _ _ (h.2.2.2.1 k j e)
   ·exact RS _ _ (h.2.2.2.2 k e)
 |_=>exact J
theorem ake{C:fh}{st st':bs}{a:Act}{w:World}{ν:bf}(h:cU C st a w ν){s:Nat}(he:wN st s=some st'):∃bq,cU C st' a w bq:=by
 unfold wN at he;split at he
 ·rename_i p e bG;cases he;obtain⟨bq,J,U,_⟩:=VA h (h.slot s) bG;exact⟨_,MA J U⟩
 ·cases he
theorem WJ{w:World}{ν:bf}:∀{cs:List ah} {us:List Value} {i:Nat} {p q:ah} {v:Value},c7 w ν cs us→cs[i]? =some p→us[i]? =some v→bc w ν q v→c7 w ν (cs.set i q) us
 |[],_,_,_,_,_,_,h,_,_=>by simp at h
 |c::cs,us,0,p,q,v,h,_,aF,bo=>by simp only[c7]at h;obtain⟨u,cn,rfl,J,U⟩:=h;simp only[List.getElem?_cons_zero,dL]at aF;subst aF;simp only[List.set_cons_zero,c7];exact⟨_,_,rfl,⟨bo,J.2⟩,U⟩
 |c::cs,us,i+1,p,q,v,h,bG,aF,bo=>by simp only[c7]at h;obtain⟨u,cn,rfl,J,U⟩:=h;simp only[List.set_cons_succ,c7];exact⟨_,_,rfl,J,WJ U (by simpa using bG) (by simpa using aF) bo⟩
theorem akd{C:fh}{st st':bs}{a:Act}{w:World}{ν:bf}(h:cU C st a w ν){s:Nat}(he:wM st s=some st'):∃bq,cU C st' a w bq:=by
 unfold wM at he;split at he
 ·rename_i k ahZ ab;generalize ahZ+s/1000=off at he;split at he
  ·rename_i cs dn;split at he
   ·rename_i p bG;split at he
    ·rename_i AK e FO;split at he
     ·rename_i s5;cases he;obtain⟨bl,us,el,g1,g2,g3,g4,g5⟩:=h.good.box k cs dn;rw[u4 s5]at g5;have bE:off<us.toList.length:=by rw[pL g5];exact(e1.1 bG).1
      obtain⟨v,aF⟩:∃v,us.toList[off]? =some v:=⟨_,bZ bE⟩;have zZ:bc w ν p v:=by have:=A1 off g5;rw[kP (e1.1 bG).1,kP bE]at this;simp only[c7]at this;obtain⟨u,cn,ak,aE,_⟩:=this;rw[(e1.1 bG).2]at aE;rw[(e1.1 aF).2]at ak;cases ak;exact aE.1
      obtain⟨bq,J,U,ar⟩:=VA h zZ FO;have wb:c7 w bq (cs.set off AK) us.toList:=WJ (WI ar g5) bG aF U;have S6:=A3 wb;refine⟨bq,⟨J.good.alt,fun j eH ae=>?_,fun j dD b ae js=>J.good.inj j dD b ?_ ?_,J.good.own,J.good.oinj,fun g j n v b a7 ae=>J.good.obx g j n v b a7 ?_,J.good.one,fun bl ad=>J.good.otr bl (ad.imp (fun⟨bS,bD,a2⟩=>⟨bS,by rw[iP]at bD;split at bD;(rename_i e;subst e;simp[dn]);exact bD,a2⟩) id)⟩,J.fr,J.defers,J.size,J.slot,J.new⟩
      ·simp only at ae;rw[iP]at ae;split at ae
       ·rename_i e;subst e;cases ae;obtain⟨iw,cn,fT,f1,f2,f3,f4,f5⟩:=J.good.box k cs dn;have:iw=bl:=by have:=ar.bx k bl trivial g1;rw[this]at f1;cases f1;rfl
        subst this;rw[u3 s5]at g4 f4;rw[g4]at f4;injection f4 with f4;injection f4 with f4 f6 f7;refine⟨iw,us,el,f1,f2,f3,by rw[u3 S6];exact g4,by rw[u4 S6];exact wb⟩
       ·exact J.good.box j eH ae
      ·simp only at ae;rw[iP]at ae;split at ae
       ·rename_i e;subst e;simp[dn]
       ·exact ae
      ·simp only at js;rw[iP]at js;split at js
       ·rename_i e;subst e;simp[dn]
       ·exact js
      ·simp only at ae;rw[iP]at ae;split at ae
       ·rename_i e;subst e;simp[dn]
       ·exact ae
     ·cases he
    ·cases he
   ·cases he
  ·cases he
 ·cases he
def sH{α:Type}(k:aI)(l:List (aI×α)):List (aI×α):=match l with
 |[]=>[]
 |(i,x)::r=>if i=k then sH k r else(i,x)::sH k r
theorem Lb{α:Type}(k j:aI):∀l:List (aI×α),look j (sH k l)=if j=k then none else look j l
 |[]=>by simp[sH,look]
 |(i,x)::r=>by
  simp only[sH];by_cases h:i=k
  ·subst h;rw[if_pos rfl,Lb i j r];by_cases U:j=i
   ·simp[U]
   ·have:¬i=j:=fun e=>U e.symm;simp[look,U,this]
  ·rw[if_neg h];simp only[look];by_cases U:i=j
   ·subst U;simp[h]
   ·simp only[U,if_false];exact Lb k j r
def JD(agg:Bool):List ah→aZ ah
 |[p]=>if agg then some (.agg [p])else some p
 |cs=>if agg then some (.agg cs)else none
def vI(st:bs)(agg:Bool)(s:Nat):aZ bs:=
 match get s st.t with
 | .ptr k 0=>match look k st.b with
  |some cs=>if hU cs then match JD agg cs with
    |some x=>some {st with t:=put s (.eptr x) st.t,b:=sH k st.b}
    |none=>none
   else none
  |none=>none
 |_=>none
theorem aj1{u:Value}(h:u.oneCell'=true):u.cells.toList=[u]:=by cases u<;>first|rfl|(simp[Value.oneCell']at h)
theorem Un{w:World}{A:Nat→Nat→Prop}{b:Nat}{us:Array Value}{el:fZ}(ad:w.heap[b]? =some (.cells us el))(bk:∀o,o<us.size→A b o):∀(aV:List Value) (off:Nat),us.toList.drop off=aV→lO w A b off aV
 |[],_,_=>trivial
 |v::aV,off,h=>by
  have bE:off<us.toList.length:=by
   rcases Nat.lt_or_ge off us.toList.length with J|J
   ·exact J
   ·rw[List.drop_eq_nil_of_le J]at h;cases h
  have U:=kP bE;rw[h]at U;injection U with U ar;refine⟨⟨bk off (by simpa using bE),?_⟩,Un ad bk aV (off+1) ar.symm⟩;have vX:off<us.size:=by simpa using bE
  simp only[World.cell?,ad,ml,gX,if_false];rw[U];simp[vX]
theorem adJ{C:fh}{st st':bs}{a:Act}{w:World}{ν:bf}(h:cU C st a w ν){agg:Bool}{s:Nat}(he:vI st agg s=some st'):∃bq,cU C st' a w bq:=by
 unfold vI at he;split at he
 ·rename_i k ab;split at he
  ·rename_i cs dn;split at he
   ·rename_i s5;split at he
    ·rename_i x af;cases he;obtain⟨bl,us,el,g1,g2,g3,g4,g5⟩:=h.good.box k cs dn;rw[u4 s5]at g5;rw[u3 s5]at g4;have bE:bl<w.heap.size:=by
      rcases Nat.lt_or_ge bl w.heap.size with J|J
      ·exact J
      ·rw[Array.getElem?_eq_none J]at g4;cases g4
     let bq:bf:={ν with A:=fun b o=>ν.A b o∨(b=bl∧o<us.size)}
     have ax:lv w ν w bq:=⟨fun b o bk=>⟨.inl bk,rfl⟩,fun j b _ ae=>ae,fun g n u _ iL=>⟨n,u,iL,.inl ⟨rfl,rfl⟩⟩,fun _ _ _=>rfl,fun _ _ _ _ h=>h⟩;have h1:∀j eH,look j (sH k st.b)=some eH→j≠k∧look j st.b=some eH:=fun j eH ae=>by
      rw[Lb]at ae;split at ae
      ·cases ae
      ·rename_i e;exact⟨e,ae⟩
     have FF:∀j,(look j (sH k st.b)).isSome→(look j st.b).isSome:=fun j ae=>by obtain⟨eH,iK⟩:=fM.1 ae;simp[(h1 j eH iK).2]
     have qO:∀(g:aI) (n:Nat) (v:Value),(look g st.e).isSome→ν.ow g=some (n,v)→v.ownBlock=some bl→eQ:=fun g n v J U ar=>h.good.obx g k n v bl J (by simp[dn]) U ar g1;have mB:bc w bq (.eptr x) (a.tmps.getD s undef):=by
      have ag:=h.slot s;rw[ab]at ag;simp only[bc]at ag⊢;obtain⟨b5,a8,bF⟩:=ag;rw[g1]at a8;cases a8;have aw:lO w bq.A bl 0 us.toList:=Un g4 (fun o ax=>.inr ⟨rfl,ax⟩) _ 0 rfl;have g6:c7 w bq cs us.toList:=WI ax g5;unfold JD at af;split at af
      ·rename_i p;simp only[c7]at g6;obtain⟨u,cn,ak,aE,bj⟩:=g6;subst bj;split at af
       ·cases af;exact⟨bl,0,.agg us,bF,by simp only[bc];exact⟨us,rfl,by rw[ak];simp only[c7];exact⟨u,[],rfl,aE,rfl⟩⟩,by simpa[pR]using aw⟩
       ·cases af;refine⟨bl,0,u,bF,aE.1,?_⟩;rw[aj1 aE.2,←ak];exact aw
      ·split at af
       ·cases af;exact⟨bl,0,.agg us,bF,by simp only[bc];exact⟨us,rfl,g6⟩,by simpa[pR]using aw⟩
       ·cases af
     refine⟨bq,MA (ν:=bq) (st:={st with b:=sH k st.b}) ⟨⟨fun b o bk=>?_,fun j eH ae=>?_,fun j dD b J U=>h.good.inj j dD b (FF j J) (FF dD U),fun g o a7=>?_,h.good.oinj,fun g j n v b J U=>h.good.obx g j n v b J (FF j U),h.good.one,fun b aK=>h.good.otr b (aK.imp (fun⟨j,bD,a2⟩=>⟨j,FF j bD,a2⟩) id)⟩,⟨h.fr.os,h.fr.tape,h.fr.output,h.fr.size,h.fr.block,fun b o bk=>⟨.inl (h.fr.keep b o bk).1,(h.fr.keep b o bk).2⟩,fun b o bk=>?_,h.fr.obj,h.fr.obn,h.fr.row,h.fr.obr,h.fr.trd,h.fr.trb,h.fr.trn,h.fr.sh⟩,h.defers,h.size,fun i=>yH ax (h.slot i),h.new⟩ mB⟩
     ·rcases bk with bk|⟨rfl,_⟩
      ·exact h.good.alt b o bk
      ·exact bE
     ·obtain⟨cF,js⟩:=h1 j eH ae;obtain⟨iw,cn,fT,f1,f2,f3,f4,f5⟩:=h.good.box j eH js;refine⟨iw,cn,fT,f1,f2,fun o bk=>?_,f4,ql ax f5⟩;rcases bk with bk|⟨rfl,_⟩
      ·exact f3 o bk
      ·exact cF (h.good.inj j k _ (by simp[js]) (by simp[dn]) f1 g1)
     ·obtain⟨v0,fv,ak,aE,bj,c2⟩:=h.good.own g o a7;have vL:∀b,v0.ownBlock=some b→∀j,bq.A b j→ν.A b j:=fun b ad j bk=>by
       rcases bk with bk|⟨rfl,_⟩
       ·exact bk
       ·exact(qO g _ v0 (by simp[a7]) ak ad).elim
      exact⟨v0,fv,ak,aE,fun b ad=>⟨(bj b ad).1,fun j bk=>(bj b ad).2 j (vL b ad j bk)⟩,sd ax vL c2⟩
     ·rcases bk with bk|⟨rfl,_⟩
      ·exact h.fr.fresh b o bk
      ·exact .inr g2
    ·cases he
   ·cases he
  ·cases he
 ·cases he
def sc(st:bs)(x:dr)(b:Bool):bs:=match x with
 | .t i=>{st with t:=put i (.bool b) st.t}
 | .c _=>st
def cZ(P:cE)(ob:List aI):C→(Exit→bs→Prop)→bs→Prop
 | .skip,Q,st=>Q .normal st
 | .region gs,Q,st=>hY P gs st (Q .normal)
 | .drawn q N gs,Q,st=>hQ P q [] st.n gs st (tN (st.n+N) st.o (Q .normal))
 | .drawnW nw N gs,Q,st=>(∀j∈nw,.obj j∉st.o)∧hQ P false nw st.n gs st (tN (st.n+N) (nw.map aI.obj++st.o) (Q .normal))
 | .seq a b,Q,st=>cZ P ob a (fun e st'=>match e with| .normal=>cZ P ob b Q st'|e=>Q e st') st
 | .cond x t e,Q,st=>match cr st.t x with
  | .bool b=>(b=true→cZ P ob t Q (sc st x true))∧(b=false→cZ P ob e Q (sc st x false))
  |_=>eQ
 | .block id c,Q,st=>cZ P ob c (fun e st'=>match e with| .exit j=>if j=id then Q .normal st' else Q (.exit j) st'|e=>Q e st') st
 | .loop c,Q,st=> ∃(gZ:Nat→bs→Prop) (m:Nat) (wX:bs),iG ob st wX∧gZ m wX∧
   ∀k s,gZ k s→(∀i,ed (get i s.t))→(∀j cs,look j s.b=some cs→hU cs=true→ep cs)→cZ P ob c (fun e ai=>match e with| .normal=> ∃bS oR,bS<k∧iG ob ai oR∧gZ bS oR|e=>Q e ai) s
 | .exit id,Q,st=>Q (.exit id) st
 | .ret,Q,st=>Q .ret st
 | .pub s c,Q,st=>match wN st s with
  |some st'=>cZ P ob c Q st'
  |none=>eQ
 | .pubB s c,Q,st=>match wM st s with
  |some st'=>cZ P ob c Q st'
  |none=>eQ
 | .fg pF s c,Q,st=>cZ P ob c Q {st with t:=put s (zv pF (get s st.t)) st.t}
 | .fz e5 s c,Q,st=>match vI st e5 s with
  |some st'=>cZ P ob c Q st'
  |none=>eQ
 | .no,_,_=>eQ
def hx(N:Nat)(bB:List (Nat×dF)):C→Code→Bool
 | .skip,.skip=>true
 | .region gs,.region _ ops false=>kt N bB ops.toList gs ops.toList
 | .drawn _ N' gs,.region _ ops true=>N'==N&&kt N bB ops.toList gs ops.toList&&Bz gs ops.toList&&zp N gs
 | .drawnW _ N' gs,.region _ ops true=>N'==N&&kt N bB ops.toList gs ops.toList&&Bz gs ops.toList&&zp N gs
 | .seq a b,.seq x y=>hx N bB a x&&hx N bB b y
 | .cond x t e,.cond o dO fy=>ek x o&&hx N bB t dO&&hx N bB e fy
 | .block id c,.block CQ cu=>id==CQ&&hx N bB c cu
 | .loop c,.loop cu=>hx N bB c cu
 | .exit id,.exit CQ=>id==CQ
 | .ret,.ret=>true
 | .pub _ c,cu=>hx N bB c cu
 | .pubB _ c,cu=>hx N bB c cu
 | .fg _ _ c,cu=>hx N bB c cu
 | .fz _ _ c,cu=>hx N bB c cu
 | .no,_=>true
 |_,_=>false
theorem Se{N:Nat}{bB:List (Nat×dF)}{ops:List Oper}:∀{gs:List c6} {os:List Oper},kt N bB ops gs os=true→gs.length=os.length
 |[],[],_=>rfl
 |[],_::_,h=>by simp[kt]at h
 |_::_,[],h=>by simp[kt]at h
 |g::gs,o::os,h=>by simp only[kt,cC]at h;simp[Se h.2]
def Yz(P:cE)(C:fh)(c:Code)(Q:Exit→bs→Prop)(st:bs):Prop:= ∀a w ν,cU C st a w ν→c.wp P (fun e bp w'=> ∃st' bq,Q e st'∧cU C st' bp w' bq) a w
theorem rz{P:cE}(hm:P.follows .mixedOrders=true){bB:List (Nat×dF)}(aK:fP P bB=true){X:fh}:∀(c:C) (code:Code) (Q:Exit→bs→Prop) (st:bs),hx X.N bB c code=true→cZ P X.ob c Q st→Yz P X code Q st
 | .skip,code,Q,st,ax,he=>by
  cases code<;>simp only[hx]at ax<;>try cases ax
  intro a w ν aJ;exact wp_skip ⟨st,ν,he,aJ⟩
 | .region gs,code,Q,st,ax,he=>by
  cases code<;>try(simp[hx]at ax;done)
  rename_i id ops draw;cases draw<;>simp only[hx]at ax
  ·intro a w ν aJ;refine wp_region ?_;have aw:gs.length=ops.size:=by simpa using Se ax
   rw[List.range_eq_range',←aw];exact Rl aK (K:=Q .normal) (fun st' bp w' bq J U=>⟨st',bq,J,U⟩) gs ops.toList 0 (by simp) ax st a w ν he aJ
  ·cases ax
 | .drawn q N gs,code,Q,st,ax,he=>by
  cases code<;>try(simp[hx]at ax;done)
  rename_i id ops draw;cases draw<;>simp only[hx]at ax
  ·cases ax
  ·simp only[cC,dQ]at ax;obtain⟨⟨⟨rfl,J⟩,U⟩,ar⟩:=ax;intro a w ν aJ;exact Rk hm aK J U ar (nw:=[]) (K:=Q .normal) (fun st' bp w' bq J U=>⟨st',bq,J,U⟩) (by simp) he aJ
 | .drawnW nw N gs,code,Q,st,ax,he=>by
  cases code<;>try(simp[hx]at ax;done)
  rename_i id ops draw;cases draw<;>simp only[hx]at ax
  ·cases ax
  ·simp only[cC,dQ]at ax;obtain⟨⟨⟨rfl,J⟩,U⟩,ar⟩:=ax;intro a w ν aJ;exact Rk hm aK J U ar (nw:=nw) (K:=Q .normal) (fun st' bp w' bq J U=>⟨st',bq,J,U⟩) he.1 he.2 aJ
 | .seq x y,code,Q,st,ax,he=>by
  cases code<;>try(simp[hx]at ax;done)
  rename_i pj ly;simp only[hx,cC]at ax;intro a w ν aJ;refine wp_seq ?_;have J:=rz hm aK x pj _ st ax.1 he a w ν aJ;refine wp_mono J fun e bp w' cw=>?_;obtain⟨st',bq,bo,dH⟩:=cw;cases e with
  |normal=>exact rz hm aK y ly Q st' ax.2 bo bp w' bq dH
  |_=>exact⟨st',bq,bo,dH⟩
 | .cond x t e,code,Q,st,ax,he=>by
  cases code<;>try(simp[hx]at ax;done)
  rename_i o aag ce;simp only[hx,cC]at ax;intro a w ν aJ;simp only[cZ]at he;have af:=en aJ ax.1.1;split at he
  ·rename_i b ad;rw[ad]at af;simp only[bc]at af;have CE:cU X (sc st x b) a w ν:=by
    unfold sc;split
    ·exact Mz aJ (by simpa[cr]using ad)
    ·exact aJ
   refine wp_cond af ?_;cases b
   ·exact rz hm aK e ce Q _ ax.2 (he.2 rfl) a w ν CE
   ·exact rz hm aK t aag Q _ ax.1.2 (he.1 rfl) a w ν CE
  ·exact he.elim
 | .block id c,code,Q,st,ax,he=>by
  cases code<;>try(simp[hx]at ax;done)
  rename_i CQ cu;simp only[hx,cC,dQ]at ax;obtain⟨rfl,ax⟩:=ax;intro a w ν aJ;refine wp_block ?_;refine wp_mono (rz hm aK c cu _ st ax he a w ν aJ) fun e bp w' cw=>?_;obtain⟨st',bq,bo,dH⟩:=cw;cases e with
  |exit j=>
   simp only[Exit.inBlock]at bo⊢;by_cases ae:j=id
   ·rw[if_pos ae]at bo⊢;exact⟨st',bq,bo,dH⟩
   ·rw[if_neg ae]at bo⊢;exact⟨st',bq,bo,dH⟩
  |_=>exact⟨st',bq,bo,dH⟩
 | .loop c,code,Q,st,ax,he=>by
  cases code<;>try(simp[hx]at ax;done)
  rename_i cu;simp only[hx]at ax;intro a w ν aJ;simp only[cZ]at he;obtain⟨gZ,m,wX,hw,hi,hc⟩:=he;refine wp_loop_ghost (fun k a w=> ∃s ν,gZ k s∧cU X s a w ν) m ⟨wX,_,hi,aJ.weaker hw⟩ ?_;intro k a w vM;obtain⟨s,ν,ag,CF⟩:=vM;have J:=hc k s ag (fun i=>WO (CF.slot i)) (fun j cs ae=>by obtain⟨bl,us,el,_,_,_,_,g5⟩:=CF.good.box j cs ae;exact WB g5);refine wp_mono (rz hm aK c cu _ s ax J a w ν CF) fun e bp w' cw=>?_;obtain⟨st',bq,bo,dH⟩:=cw;cases e with
  |normal=>obtain⟨bS,oR,ak,aE,bj⟩:=bo;exact⟨bS,ak,oR,_,bj,dH.weaker aE⟩
  |_=>exact⟨st',bq,bo,dH⟩
 | .exit id,code,Q,st,ax,he=>by
  cases code<;>try(simp[hx]at ax;done)
  rename_i CQ;simp only[hx,dQ]at ax;subst ax;intro a w ν aJ;exact wp_exit ⟨st,ν,he,aJ⟩
 | .ret,code,Q,st,ax,he=>by
  cases code<;>try(simp[hx]at ax;done)
  intro a w ν aJ;exact wp_ret ⟨st,ν,he,aJ⟩
 | .pub s c,code,Q,st,ax,he=>by
  simp only[hx]at ax;simp only[cZ]at he;split at he
  ·rename_i st' ag;intro a w ν aJ;obtain⟨bq,J⟩:=ake aJ ag;exact rz hm aK c code Q st' ax he a w bq J
  ·exact he.elim
 | .pubB s c,code,Q,st,ax,he=>by
  simp only[hx]at ax;simp only[cZ]at he;split at he
  ·rename_i st' ag;intro a w ν aJ;obtain⟨bq,J⟩:=akd aJ ag;exact rz hm aK c code Q st' ax he a w bq J
  ·exact he.elim
 | .fg pF s c,code,Q,st,ax,he=>by simp only[hx]at ax;simp only[cZ]at he;intro a w ν aJ;exact rz hm aK c code Q _ ax he a w ν (MA aJ (adu (aJ.slot s)))
 | .fz e5 s c,code,Q,st,ax,he=>by
  simp only[hx]at ax;simp only[cZ]at he;intro a w ν aJ;split at he
  ·rename_i st' dd;obtain⟨bq,J⟩:=adJ aJ dd;exact rz hm aK c code Q st' ax he a w bq J
  ·exact he.elim
 | .no,code,Q,st,ax,he=>by simp only[cZ]at he
inductive bA where
 |tmp (i:Nat)
 |cell (i:Nat) (agg:Bool) (sz:Nat)
def aY(st:bs):bA→aZ (Prop×ah)
 | .tmp i=>some (True,get i st.t)
 | .cell i agg sz=>mK st.b st.e agg sz (get i st.t)
def aX(st:bs):List bA→aZ (Prop×List ah)
 |[]=>some (True,[])
 |r::fk=>match aY st r,aX st fk with
  |some (c,p),some (cu,cx)=>some (c∧cu,p::cx)
  |_,_=>none
def q3(bB:List (Nat×dF)):List bA→List ResultVar→Bool
 |[],[]=>true
 | .tmp i::fk,.tmp j::os=>i==j&&q3 bB fk os
 | .cell i agg sz::fk,.cell j t::os=>i==j&&(match ef bB t with|some f=>f.size==sz&&f.kind.isAgg==agg|none=>false)&&q3 bB fk os
 |_,_=>false
def aW:List ah→ah
 |[p]=>p
 |cx=>.tuple cx
def Hp(tmps:Array Value):ResultVar→Sem Value
 | .tmp t=>pure (tmps.getD t undef)
 | .cell x t=>do loadVar t (←asAddr (tmps.getD x undef))
theorem als(fn:Func)(tmps:Array Value):results fn tmps=(do let aV←fn.results.mapM (Hp tmps);pure (if h:aV.size=1 then aV[0]else .tuple aV)):=by unfold results;congr 2
theorem MH{P:cE}{bB:List (Nat×dF)}(aK:fP P bB=true){X:fh}{st:bs}{a:Act}{w:World}{ν:bf}(aJ:cU X st a w ν):
  ∀(fk:List bA) (os:List ResultVar) (c:Prop) (cx:List ah),q3 bB fk os=true→aX st fk=some (c,cx)→c→
  ∃aV,(os.mapM (Hp a.tmps)).run P w= .ok aV w∧cQ w ν cx aV
 |[],[],c,cx,_,he,_=>by simp only[aX]at he;cases he;exact⟨[],by simp,by simp[cQ]⟩
 |[],_::_,_,_,ax,_,_=>by simp[q3]at ax
 | .tmp _::_,[],_,_,ax,_,_=>by simp[q3]at ax
 | .cell _ _ _::_,[],_,_,ax,_,_=>by simp[q3]at ax
 |r::fk,o::os,c,cx,ax,he,au=>by
  simp only[aX]at he;split at he
  ·rename_i bL p cp Vz J U;cases he;cases r with
   |tmp i=>
    cases o with
    |cell _ _=>simp[q3]at ax
    |tmp j=>simp only[q3,cC,dQ]at ax;obtain⟨rfl,ax⟩:=ax;simp only[aY]at J;cases J;obtain⟨aV,g1,g2⟩:=MH aK aJ fk os cp Vz ax U au.2;refine⟨a.tmps.getD i undef::aV,?_,by simp only[cQ];exact⟨_,_,rfl,aJ.slot i,g2⟩⟩;simp only[List.mapM_cons,fH,Hp,gy,fL,g1]
   |cell i agg sz=>
    cases o with
    |tmp _=>simp[q3]at ax
    |cell j t=>
     simp only[q3,cC,dQ]at ax;obtain⟨⟨rfl,ar⟩,ax⟩:=ax;split at ar
     ·rename_i f aL;simp only[cC,dQ]at ar;obtain⟨rfl,rfl⟩:=ar;simp only[aY]at J;obtain⟨aV,g1,g2⟩:=MH aK aJ fk os cp Vz ax U au.2;obtain⟨v,f1,f2⟩:=Gq aK aJ.good aL (aJ.slot i) J au.1;have CA:∃sC,a.tmps.getD i undef= .pointer (some sC):=by
       have ag:=aJ.slot i;unfold mK at J;split at J
       ·rename_i dI k n wk rA ab;rw[ab]at ag;simp only[bc]at ag;obtain⟨⟨b,o,e⟩,_⟩:=ag;exact⟨_,e⟩
       ·rename_i k off ab;rw[ab]at ag;simp only[bc]at ag;obtain⟨b,_,e⟩:=ag;exact⟨_,e⟩
       ·rename_i q ab;rw[ab]at ag;simp only[bc]at ag;obtain⟨b,off,u,e,_⟩:=ag;exact⟨_,e⟩
       ·cases J
      obtain⟨sC,Cc⟩:=CA;rw[Cc]at f1;simp only[Instr.loadAt,Instr.sureAddr,fH,gy,fL]at f1;refine⟨v::aV,?_,by simp only[cQ];exact⟨_,_,rfl,f2,g2⟩⟩;have aeG:(asAddr (.pointer (some sC)):Sem Addr).run P w= .ok sC w:=rfl;simp only[List.mapM_cons,fH,Hp,gy,fL,g1,Cc,aeG,f1]
     ·cases ar
  ·cases he
theorem DK{w:World}{ν:bf}:∀{cx:List ah} {aV:List Value},cQ w ν cx aV→aV.length=cx.length
 |[],aV,h=>by simp only[cQ]at h;subst h;rfl
 |p::cx,aV,h=>by simp only[cQ]at h;obtain⟨u,cn,rfl,_,U⟩:=h;simp[DK U]
def kn:Nat→List ah→List (Nat×ah)
 |_,[]=>[]
 |i,p::cx=>(i,p)::kn (i+1) cx
theorem JM:∀(cx:List ah) (i j:Nat),get j (kn i cx)=if i≤j∧j<i+cx.length then cx.getD (j-i) .junk else .junk
 |[],i,j=>by simp[kn,get]
 |p::cx,i,j=>by
  simp only[kn,get];by_cases h:i=j
  ·subst h;simp
  ·rw[if_neg h,JM cx (i+1) j];by_cases U:i≤j∧j<i+(p::cx).length
   ·rw[if_pos U,if_pos (by simp at U⊢;omega)];have:j-i=(j-(i+1))+1:=by omega
    rw[this];simp
   ·rw[if_neg U,if_neg (by simp at U⊢;omega)]
def mc{α:Type}(ai:cK):List (aI×α)→Prop
 |[]=>True
 |(k,_)::r=>inObs ai k∧mc ai r
theorem Aj{α:Type}{ai:cK}:∀{l:List (aI×α)},mc ai l→∀k,(look k l).isSome→inObs ai k
 |[],_,k,h=>by simp[look]at h
 |(i,x)::r,ab,k,h=>by
  simp only[mc]at ab;simp only[look]at h;split at h
  ·rename_i e;subst e;exact ab.1
  ·exact Aj ab.2 k h
def cV(fk:List bA)(s:cK)(Q:ah→cK→Prop)(e:Exit)(st:bs):Prop:=
 (e= .ret∨e= .normal)∧match aX st fk with
  |some (c,cx)=>c∧∃ai,mc ai s.b∧mc ai s.e∧gG (inObs ai) ai.b st.b∧oV (inObs ai) ai.e st.e∧iQ ai∧aB (inObs ai) (dm (aW cx))∧Q (dm (aW cx)) ai
  |none=>eQ
theorem bU.of{P:cE}(hm:P.follows .mixedOrders=true){bB:List (Nat×dF)}(aK:fP P bB=true){f:FuncId}{fn:Func}(aL:P.funcs[f]? =some fn){code:Code}(ad:fn.body=some code)(Cu:(fn.name== "runtime.NumGoroutine")=false){c:C}(au:hx fn.ntmps bB c code=true){fk:List bA}(CF:q3 bB fk fn.results.toList=true)
  {args:List ah} (aw:args.length≤fn.ntmps) {s:cK} (pE:iQ s) {Q:ah→cK→Prop} (he:eu args→(∀j cs,look j s.b=some cs→hU cs=true→ep cs)→cZ P (cX s) c (cV fk s Q) ⟨kn 0 args,s.b,s.e,0,cX s⟩):bU P f args s Q:=by
 intro w ν aV a7 af aJ;refine .inl ⟨⟨fn,aL,by simp[ad],Cu⟩,?_⟩;have ju:=DK aJ;have kX:aV.size=args.length:=by simpa using ju
 let X:fh:=⟨w,ν,fx ν s,fn.ntmps,cX s⟩
 have oF:∀k,fresh 0 (cX s) k→ν.bx k=none∧ν.ow k=none∧∀j b,¬ν.tr k j b:=by
  intro k ab;cases k with
  |loc m=>exact⟨(af _).1 (pE.1 m),(af _).2.1 (pE.2 m),(af _).2.2⟩
  |obj m=>
   simp only[fresh,true_and]at ab;refine⟨?_,?_,(af _).2.2⟩
   ·refine(af _).1 ?_;cases h:look (.obj m) s.b with
    |none=>rfl
    |some x=>exact absurd (tn (.inl (by simp[h]))) ab
   ·refine(af _).2.1 ?_;cases h:look (.obj m) s.e with
    |none=>rfl
    |some x=>exact absurd (tn (.inr (by simp[h]))) ab
 have jr:∀m,(ν.bx (.obj m)≠none∨ν.ow (.obj m)≠none)→ .obj m∈cX s:=by
  intro m hm;refine Classical.byContradiction fun au=>?_;obtain⟨J,U,_⟩:=oF (.obj m) ⟨trivial,au⟩;rcases hm with hm|hm
  ·exact hm J
  ·exact hm U
 have p4:cU X ⟨kn 0 args,s.b,s.e,0,cX s⟩ {tmps:=aV++Array.replicate (fn.ntmps-aV.size) undef,defers:=[]} w ν:=by
  refine⟨⟨a7.alt,fun k cs ab=>?_,a7.inj,fun g o dC=>?_,a7.oinj,a7.obx,a7.one,a7.otr⟩,⟨rfl,rfl,rfl,eR _,fun _ _ _=>rfl,fun b o h=>⟨h,rfl⟩,fun b o h=>.inl h,fun n b h=>h,fun n b h=>jr n (.inl (by rw[h];simp)),fun m n u h=>⟨n,u,h,.inl ⟨rfl,rfl⟩⟩,fun m n u h=>jr m (.inr (by rw[h];simp)),fun k j _ _ b h=>absurd h ((af k).2.2 j b),fun k j b h=>absurd h ((af k).2.2 j b),fun k j b h=>absurd h ((af k).2.2 j b),fun _ _ _=>rfl⟩,rfl,?_,fun i=>?_,oF⟩
  ·obtain⟨bl,us,el,g1,g2,g3⟩:=a7.box k cs ab;exact⟨bl,us,el,g1,.inl g2,g3⟩
  ·obtain⟨v,us,g1,g2,g3,g4⟩:=a7.own g o dC;exact⟨v,us,g1,g2,fun bl fb=>⟨.inl (g3 bl fb).1,(g3 bl fb).2⟩,g4⟩
  ·show(aV++Array.replicate (fn.ntmps-aV.size) undef).size=fn.ntmps;simp;omega
  ·rw[JM];by_cases hi:i<args.length
   ·rw[if_pos (by omega)];have uA:args[i]? =some args[i]:=bZ hi;obtain⟨v,ak,aE⟩:=Hi i aJ uA;have aF:(aV++Array.replicate (fn.ntmps-aV.size) undef).getD i undef=v:=by
     have I5:aV[i]? =some v:=by simpa using ak
     rw[Array.getD_eq_getD_getElem?,Array.getElem?_append_left (by omega),I5];rfl
    show bc w ν _ ((aV++Array.replicate (fn.ntmps-aV.size) undef).getD i undef);rw[aF];simpa[List.getD,uA]using aE
   ·rw[if_neg (by omega)];simp[bc]
 have uw:=he (WM aJ) (fun j cs ae=>by obtain⟨bl,us,el,_,_,_,_,g5⟩:=a7.box j cs ae;exact WB g5);have agb:=rz hm aK (X:=X) c code (cV fk s Q) _ au uw _ w ν p4;refine calls_of_wp aL ad (wp_mono agb fun e bp w' cw=>?_);obtain⟨st',bq,⟨uv,bo⟩,dH⟩:=cw;cases x4:aX st' fk with
 |none=>simp[x4]at bo
 |some x=>
  obtain⟨cu,cx⟩:=x;simp only[x4]at bo;obtain⟨hy,ai,kb,ke,a8,bF,b0,c0,da⟩:=bo;obtain⟨wU,g1,g2⟩:=MH aK dH fk fn.results.toList cu cx CF x4 hy;have Tb:=DK g2;have dx:bp.defers=[]∧∃v,(results fn bp.tmps).run P w'= .ok v w'∧(fun(e:Ending) w'=> ∃v r ai bq,e= .returned v∧Q r ai∧bc w' bq r v∧Good (fun bl=>fx ν s bl∨w.heap.size≤bl) w' bq ai.b ai.e∧pt bq ai∧iQ ai∧qx ⟨w,ν,fx ν s,0,cX s⟩ w' bq) (.returned v) w':=by
   refine⟨dH.defers,?_⟩;have iN:(results fn bp.tmps).run P w'= .ok (if h:wU.toArray.size=1 then wU.toArray[0]else .tuple wU.toArray) w':=by rw[als];simp only[fH,Array.mapM_eq_mapM_toList,Sem.run_map,g1,fL,gy]
   refine⟨_,iN,_,dm (aW cx),ai,bq.cut (inObs ai),rfl,da,?_,dH.good.cut a8 bF (fun bl h _=>h),?_,b0,?_⟩
   ·have mA:bc w' bq (aW cx) (if h:wU.toArray.size=1 then wU.toArray[0]else .tuple wU.toArray):=by
     match cx,wU,g2,Tb with
     |[p],[v],g2,_=>simp only[cQ]at g2;obtain⟨u,cn,ak,aE,_⟩:=g2;cases ak;simpa[aW]using aE
     |[],[],g2,_=>simp[aW,bc,cQ]
     |p::dt::cx,v::v2::wU,g2,_=>rw[dif_neg (by simp)];simp only[aW,bc];exact⟨_,rfl,by simpa using g2⟩
     |[_],[],_,h=>simp at h
     |[],_::_,_,h=>simp at h
     |[_],_::_::_,_,h=>simp at h
     |_::_::_,[],_,h=>simp at h
     |_::_::_,[_],_,h=>simp at h
    exact vd (pc.cut _ w' bq) _ _ c0 (yI _ _ mA)
   ·intro k;refine⟨?_,?_,?_⟩;rotate_left 2
    ·rintro j b ⟨ag,ad⟩;obtain⟨t1,t2⟩:=dH.fr.trn k j b ad;rcases ag with ag|ag<;>obtain⟨x,ih⟩:=fM.1 ag
     ·obtain⟨bl,cn,el,ak,_⟩:=dH.good.box k x (a8 k x ih).1;rw[t1]at ak;cases ak
     ·obtain⟨v',cn,ak,_⟩:=dH.good.own k x (bF k x ih).1;rw[t2]at ak;cases ak
    ·intro ab;by_cases ag:inObs ai k
     ·rw[bf.cut_bx ag];rcases ag with ag|ag
      ·rw[ab]at ag;cases ag
      ·obtain⟨x,ih⟩:=fM.1 ag;obtain⟨v',cn,ak,_⟩:=dH.good.own k x (bF k x ih).1;rcases dH.good.one k with J|J
       ·exact J
       ·rw[J]at ak;cases ak
     ·exact(bf.cut_no ag).1
    ·intro ab;by_cases ag:inObs ai k
     ·rw[bf.cut_ow ag];rcases ag with ag|ag
      ·obtain⟨x,ih⟩:=fM.1 ag;obtain⟨bl,cn,el,ak,_⟩:=dH.good.box k x (a8 k x ih).1;rcases dH.good.one k with J|J
       ·rw[J]at ak;cases ak
       ·exact J
      ·rw[ab]at ag;cases ag
     ·exact(bf.cut_no ag).2.1
   ·refine⟨dH.fr.os,dH.fr.tape,dH.fr.output,dH.fr.size,dH.fr.block,dH.fr.keep,dH.fr.fresh,fun n b h=>?_,fun n b h=>jr n (.inl (by rw[h];simp)),fun m n u h=>?_,fun m n u h=>jr m (.inr (by rw[h];simp)),fun k j bS dD b J U=>dH.fr.trd k j bS dD b J.2 U.2,fun k j b ad=>dH.fr.trb k j b ad.2,fun k j b ad=>(by rw[bf.cut_bx ad.1,bf.cut_ow ad.1];exact dH.fr.trn k j b ad.2),dH.fr.sh⟩
    ·have ag:inObs ai (.obj n):=by
      cases aw:look (.obj n) s.b with
      |none=>rw[(af _).1 aw]at h;cases h
      |some x=>exact Aj kb _ (by simp[aw])
     rw[bf.cut_bx ag];exact dH.fr.obj n b h
    ·have ag:inObs ai (.obj m):=by
      cases aw:look (.obj m) s.e with
      |none=>rw[(af _).2.1 aw]at h;cases h
      |some x=>exact Aj ke _ (by simp[aw])
     rw[bf.cut_ow ag];exact dH.fr.row m n u h
  rcases uv with rfl|rfl<;>exact dx
def b1(bB:List (Nat×dF))(c:C)(fk:List bA)(ahU:Nat)(fn:Func):Bool:=
 match fn.body with
 |some code=>hx fn.ntmps bB c code&&q3 bB fk fn.results.toList&& !(fn.name== "runtime.NumGoroutine")&&decide (ahU≤fn.ntmps)
 |none=>false
theorem bU.mk{P:cE}(hm:P.follows .mixedOrders=true){bB:List (Nat×dF)}(aK:fP P bB=true){f:FuncId}{fn:Func}(aL:P.funcs[f]? =some fn){c:C}{fk:List bA}{n:Nat}(eY:b1 bB c fk n fn=true)
  {args:List ah} (aw:args.length≤n) {s:cK} (pE:iQ s) {Q:ah→cK→Prop} (he:eu args→(∀j cs,look j s.b=some cs→hU cs=true→ep cs)→cZ P (cX s) c (cV fk s Q) ⟨kn 0 args,s.b,s.e,0,cX s⟩):bU P f args s Q:=by
 unfold b1 at eY;split at eY
 ·rename_i code ad;simp only[cC,Bool.not_eq_true',e2]at eY;obtain⟨⟨⟨J,U⟩,ar⟩,ba⟩:=eY;exact bU.of hm aK aL ad ar J U (jT aw ba) pE he
 ·cases eY
theorem yq:iQ ⟨[],[]⟩:=⟨fun _=>rfl,fun _=>rfl⟩
def bt(fk:List bA)(r:ah)(e:Exit)(st:bs):Prop:=
 (e= .ret∨e= .normal)∧match aX st fk with
  |some (c,cx)=>c∧dm (aW cx)=r
  |none=>eQ
theorem bH.mk{P:cE}(hm:P.follows .mixedOrders=true){bB:List (Nat×dF)}(aK:fP P bB=true){f:FuncId}{fn:Func}(aL:P.funcs[f]? =some fn){c:C}{fk:List bA}{n:Nat}(eY:b1 bB c fk n fn=true)
  {args:List ah} (aw:args.length≤n) {r:ah} (aJ:aB (fun _=>eQ) r) (he:eu args→cZ P [] c (bt fk r) ⟨kn 0 args,[],[],0,[]⟩):bH P f args r:=by
 refine bU.mk hm aK aL eY aw yq fun J _=>?_;have:=he J;have h0:bt fk r=cV fk ⟨[],[]⟩ (fun eF ai=>eF=r∧ai=⟨[],[]⟩):=by
  funext e st;unfold bt cV;apply propext;refine and_congr_right fun _=>?_;cases aX st fk with
  |none=>exact Iff.rfl
  |some x=>
   obtain⟨c,cx⟩:=x;refine and_congr_right fun _=>?_;constructor
   ·intro h;refine⟨⟨[],[]⟩,trivial,trivial,fun k cs ab=>by simp[look]at ab,fun k cs ab=>by simp[look]at ab,yq,?_,h,rfl⟩;rw[h];exact wx (fun k ab=>ab.elim) r aJ
   ·rintro⟨ai,_,_,_,_,_,_,h,_⟩;exact h
 rw[h0]at this;exact this
theorem NH{α:Type}{β:Type}:∀l:List (aI×α),cz ([]:List (aI×β)) l=l
 |[]=>rfl
 |(k,x)::r=>by simp[cz,look,NH r]
theorem c8.val{P:cE}{n:Nat}{args:List ah}{st:bs}{d:aZ Nat}{K:bs→Prop}{r:ah}(ab:aH (fun _=>eQ) args)(aL:bH P n args r)(h:K {st with t:=eM d r st.t}):c8 P n args st d K:=by
 refine .inl ⟨⟨[],[]⟩,_,fun k cs ab=>by simp[look]at ab,fun k cs ab=>by simp[look]at ab,yq,jZ (fun _ h=>h.elim) _ ab,aL,?_⟩;rintro eF ai ⟨rfl,rfl⟩;refine⟨⟨fun m h=>by simp[look]at h,fun m h=>by simp[look]at h⟩,?_⟩;have:after st ⟨[],[]⟩ ⟨[],[]⟩ d eF={st with t:=eM d eF st.t}:=by simp[after,NH,cX]
 rw[this];exact h
@[reducible,simp] def fQ(n:Int):dr:= .c (.int .i64 n)
@[reducible,simp] def I(a b:Nat):c6:=⟨none,.s (.v a (.mov (.t b)))⟩
@[reducible,simp] def ca(a:Nat)(i:fS):c6:=⟨none,.s (.v a i)⟩
@[reducible,simp] def cW(i:eo):c6:=⟨none,.s i⟩
@[reducible,simp] def dJ(a f:Nat)(l:List dr):c6:=⟨none,.call (some a) (.c (.func f [])) l⟩
@[reducible,simp] def bW(j:Nat)(w:Bool)(a b:Nat):c6:=⟨some (j,w),.s (.v a (.mov (.t b)))⟩
@[reducible,simp] def xa(j:Nat)(w:Bool)(a:Nat)(i:fS):c6:=⟨some (j,w),.s (.v a i)⟩
@[reducible,simp] def ys(j:Nat)(w:Bool)(i:eo):c6:=⟨some (j,w),.s i⟩
@[reducible,simp] def cd(d s a b:Nat):c6:=ca d (.iaddr s (.t a) (.t b))
@[reducible,simp] def av(d s a:Nat):c6:=ca d (.load false s (.t a))
@[reducible,simp] def a6(d s a:Nat):c6:=ca d (.load true s (.t a))
@[reducible,simp] def aG(d o s a:Nat):c6:=ca d (.faddr o false s (.t a))
@[reducible,simp] def gD(d o s a:Nat):c6:=ca d (.faddr o true s (.t a))
@[reducible,simp] def bg(d:Nat)(o:BinOp)(a b:Nat):c6:=ca d (.bin o false (.t a) (.t b))
@[reducible,simp] def aS(d:Nat)(o:BinOp)(a:Nat)(n:Int):c6:=ca d (.bin o false (.t a) (fQ n))
@[reducible,simp] def b7(d a:Nat):c6:=ca d (.len (.t a))
@[reducible,simp] def cy(d a:Nat):c6:=ca d (.notB (.t a))
@[reducible,simp] def cH(d i a:Nat):c6:=ca d (.ext i (.t a))
@[reducible,simp] def cY(d a b:Nat):c6:=ca d (.pick (.t a) (.c (.bool true)) (.t b))
@[reducible,simp] def du(d a b:Nat):c6:=ca d (.pick (.t a) (.t b) (.c (.bool false)))
@[reducible,simp] def be(d:Nat)(b:Bool):c6:=ca d (.mov (.c (.bool b)))
@[reducible,simp] def bJ(d:Nat)(n:Int):c6:=ca d (.mov (fQ n))
@[reducible,simp] def bT(s a b:Nat):c6:=cW (.store s (.t a) (.t b))
@[reducible,simp] def aq(j:Nat)(w:Bool)(x:c6):c6:=⟨some (j,w),x.i⟩
@[reducible,simp] def aa(l:List c6)(c:C):C:= .seq (.region l) c
@[reducible,simp] def aT(n:Nat)(a b:C):C:= .cond (.t n) a b
@[reducible,simp] def gH(d a:Nat)(l:List dr):c6:=⟨none,.call (some d) (.t a) l⟩
@[reducible,simp] def cJ(d f a:Nat):c6:=dJ d f [.t a]
@[reducible,simp] def b3(d f a b:Nat):c6:=dJ d f [.t a,.t b]
@[reducible,simp] def ds:List ah:=[.int .i64 0,.int .i64 0,.str [],.slice 4 .nil []]
@[reducible,simp] def ik:List ah:=[.int .i64 0,.int .i64 0,.int .i64 0,.str [],.slice 4 .nil []]
@[reducible,simp] def oM:List ah:=[.int .i64 0,.slice 5 .nil [],.slice 1 .nil [],.slice 2 .nil [],.slice 2 .nil []]
@[reducible,simp] def cM(a b:Nat):c6:=cW (.box a none (.t b))
@[reducible,simp] def dg(a:Nat)(l:List ah):c6:=cW (.alloc a none (.agg l))
@[reducible,simp] def eN(a n:Nat):c6:=ca a (.mov (.c (.slice n .nil [])))
@[reducible,simp] def hF(a b c d e:Nat):c6:=cW (.app a b c (.t d) (.t e))
@[reducible,simp] def eD(a b c:Nat)(l:List dr):c6:=cW (.bsl a b c l)
@[reducible,simp] def fw(a b:Nat):c6:=ca a (.nck (.t b))
@[reducible,simp] def jR(d s a:Nat)(n:Int):c6:=ca d (.iaddr s (.t a) (fQ n))
@[reducible,simp] def jQ(d:Nat)(l:List ah)(m:List (Nat×Nat×dr)):c6:=ca d (.build l m)
@[reducible,simp] def e0(a b c:Nat)(x:C):C:= .block 0 (.loop (aa [bg a .lss b c] (.seq (aT a .skip (.exit 0)) x)))
end Go.Pv
namespace Go.Pv
open Go Go.RowKit
theorem dT{α:Type}{l:List α}{i:Nat}(h:i<l.length):∃b,l[i]? =some b∧∀h,(l[i]'h)=b:=⟨l[i],bZ h,fun _=>rfl⟩
def MN(st:bs)(i:eo):Prop:=match mf st i with|some (c,_)=>c|none=>eQ
def MO(st:bs)(i:eo):bs:=match mf st i with|some (_,s)=>s|none=>st
def El(P:cE)(r:List c6)(K:bs→Prop)(st:bs):Prop:=hY P r st K
def y7(P:cE)(ob:List aI)(c:C)(Q:Exit→bs→Prop)(st:bs):Prop:=cZ P ob c Q st
def pZ(P:cE)(v:ah)(s:Nat)(w:Bool)(i:ei)(r:List c6)(st:bs)(K:bs→Prop):Prop:=
 match v with
 | .bool b=>(b=w→hY P (⟨none,i⟩::r) {st with t:=put s (.bool w) st.t} K)∧(b= !w→hY P r {st with t:=eM i.dst (.tuple []) (put s (.bool !w) st.t)} K)
 | .tuple []=>hY P r {st with t:=eM i.dst (.tuple []) st.t} K
 |_=>eQ
def uf(P:cE)(ob:List aI)(v:ah)(x:dr)(t e:C)(Q:Exit→bs→Prop)(st:bs):Prop:=
 match v with
 | .bool b=>(b=true→cZ P ob t Q (sc st x true))∧(b=false→cZ P ob e Q (sc st x false))
 |_=>eQ
def Je(P:cE)(v:ah)(d:aZ Nat)(xs:List ah)(r:List c6)(st:bs)(K:bs→Prop):Prop:=
 match v with
 | .func n dj=>c8 P n (cR (xs++dj)) st d (El P r K)
 |_=>eQ
section
variable {P:cE} {ob:List aI} {st:bs} {K:bs→Prop} {r:List c6} {Q:Exit→bs→Prop} {a b c t e:C}
theorem abb:hY P [] st K=K st:=rfl
theorem abc{i:eo}:hY P (⟨none,.s i⟩::r) st K=(MN st i∧hY P r (MO st i) K):=by
 simp only[hY,ue,MN,MO];cases mf st i with
 |none=>simp
 |some x=>rfl
theorem aa8{d:aZ Nat}{f:dr}{xs:List dr}:hY P (⟨none,.call d f xs⟩::r) st K=Je P (cr st.t f) d (xs.map (cr st.t)) r st K:=by simp only[hY,ue,Je];rfl
theorem aba{d:Nat}{x:dr}:hY P (⟨none,.next d x⟩::r) st K=sK st d (cr st.t x) (El P r K):=by simp only[hY,ue];rfl
def xf(P:cE)(ob:List aI)(c:C)(Q:Exit→bs→Prop):aZ bs→Prop
 |some st=>cZ P ob c Q st
 |none=>eQ
theorem YH:xf P ob c Q (some st)=cZ P ob c Q st:=rfl
theorem aaN{s:Nat}:cZ P ob (.pub s c) Q st=xf P ob c Q (wN st s):=by simp only[cZ];cases wN st s<;>rfl
theorem aaJ{pF:Bool}{s:Nat}:cZ P ob (.fg pF s c) Q st=cZ P ob c Q {st with t:=put s (zv pF (get s st.t)) st.t}:=rfl
theorem aaK{pF:Bool}{s:Nat}{d:C}:cZ P ob (.seq (.fg pF s c) d) Q st=cZ P ob (.seq c d) Q {st with t:=put s (zv pF (get s st.t)) st.t}:=rfl
theorem aaL{e5:Bool}{s:Nat}:cZ P ob (.fz e5 s c) Q st=xf P ob c Q (vI st e5 s):=by simp only[cZ];cases vI st e5 s<;>rfl
theorem aaM{e5:Bool}{s:Nat}{d:C}:cZ P ob (.seq (.fz e5 s c) d) Q st=xf P ob (.seq c d) Q (vI st e5 s):=by simp only[cZ];cases vI st e5 s<;>rfl
theorem aaO{s:Nat}:cZ P ob (.pubB s c) Q st=xf P ob c Q (wM st s):=by simp only[cZ];cases wM st s<;>rfl
theorem aa7{n:Nat}{dj:List ah}{d:aZ Nat}{xs:List ah}:Je P (.func n dj) d xs r st K=c8 P n (cR (xs++dj)) st d (El P r K):=rfl
theorem aa9{s:Nat}{w:Bool}{i:ei}:hY P (⟨some (s,w),i⟩::r) st K=pZ P (get s st.t) s w i r st K:=by simp only[hY,pZ];try rfl
theorem abh{s:Nat}{i:ei}:pZ P (.bool true) s true i r st K=hY P (⟨none,i⟩::r) {st with t:=put s (.bool true) st.t} K:=by simp[pZ]
theorem abd{s:Nat}{i:ei}:pZ P (.bool false) s false i r st K=hY P (⟨none,i⟩::r) {st with t:=put s (.bool false) st.t} K:=by simp[pZ]
theorem abg{s:Nat}{i:ei}:pZ P (.bool true) s false i r st K=hY P r {st with t:=eM i.dst (.tuple []) (put s (.bool true) st.t)} K:=by simp[pZ]
theorem abe{s:Nat}{i:ei}:pZ P (.bool false) s true i r st K=hY P r {st with t:=eM i.dst (.tuple []) (put s (.bool false) st.t)} K:=by simp[pZ]
theorem abf{s:Nat}{w:Bool}{i:ei}:pZ P (.tuple []) s w i r st K=hY P r {st with t:=eM i.dst (.tuple []) st.t} K:=by simp[pZ]
theorem bR{x:Bool}{s:Nat}{w:Bool}{i:ei}(J:x=w→hY P (⟨none,i⟩::r) {st with t:=put s (.bool w) st.t} K)(U:x= !w→hY P r {st with t:=eM i.dst (.tuple []) (put s (.bool !w) st.t)} K):pZ P (.bool x) s w i r st K:=⟨J,U⟩
theorem aay:cZ P ob (.seq (.seq a b) c) Q st=cZ P ob (.seq a (.seq b c)) Q st:=by simp only[cZ];congr 1;funext e st';cases e<;>rfl
theorem aaT:cZ P ob (.seq .skip c) Q st=cZ P ob c Q st:=rfl
theorem aaR:cZ P ob (.seq .ret c) Q st=Q .ret st:=rfl
theorem aaH{n:Nat}:cZ P ob (.seq (.exit n) c) Q st=Q (.exit n) st:=rfl
theorem aaU:cZ P ob .skip Q st=Q .normal st:=rfl
theorem aaS:cZ P ob .ret Q st=Q .ret st:=rfl
theorem aaI{n:Nat}:cZ P ob (.exit n) Q st=Q (.exit n) st:=rfl
theorem aaP{gs:List c6}:cZ P ob (.seq (.region gs) c) Q st=hY P gs st (y7 P ob c Q):=rfl
theorem aaQ{gs:List c6}:cZ P ob (.region gs) Q st=hY P gs st (Q .normal):=rfl
theorem aaB{x:dr}:cZ P ob (.seq (.cond x t e) c) Q st=uf P ob (cr st.t x) x (.seq t c) (.seq e c) Q st:=by simp only[cZ,uf];try rfl
theorem aaC{x:dr}:cZ P ob (.cond x t e) Q st=uf P ob (cr st.t x) x t e Q st:=by simp only[cZ,uf];try rfl
theorem aaW{x:dr}:uf P ob (.bool true) x t e Q st=cZ P ob t Q (sc st x true):=by simp[uf]
theorem aaV{x:dr}:uf P ob (.bool false) x t e Q st=cZ P ob e Q (sc st x false):=by simp[uf]
theorem bP{v:Bool}{x:dr}(J:v=true→cZ P ob t Q (sc st x true))(U:v=false→cZ P ob e Q (sc st x false)):uf P ob (.bool v) x t e Q st:=⟨J,U⟩
def y3(P:cE)(ob:List aI)(id:Nat)(c:C)(Q:Exit→bs→Prop)(e:Exit)(st:bs):Prop:=
 match e with
 | .normal=>cZ P ob c Q st
 | .exit j=>if j=id then cZ P ob c Q st else Q (.exit j) st
 |e=>Q e st
theorem aaz{id:Nat}:cZ P ob (.seq (.block id a) c) Q st=cZ P ob a (y3 P ob id c Q) st:=by
 simp only[cZ];congr 1;funext e st';cases e with
 |exit j=>rfl
 |_=>rfl
theorem aaA{id:Nat}:cZ P ob (.block id a) Q st=cZ P ob a (y3 P ob id .skip Q) st:=by
 simp only[cZ];congr 1;funext e st';cases e with
 |exit j=>simp only[y3];by_cases ae:j=id<;>simp[ae,cZ]
 |_=>rfl
theorem Yv{id:Nat}:y3 P ob id c Q .normal st=y7 P ob c Q st:=rfl
theorem Yu{id j:Nat}:y3 P ob id c Q (.exit j) st=if j=id then y7 P ob c Q st else Q (.exit j) st:=rfl
theorem Yw{id:Nat}:y3 P ob id c Q .ret st=Q .ret st:=rfl
def bK(ob:List aI)(gZ:Nat→bs→Prop)(k:Nat)(Q:Exit→bs→Prop)(e:Exit)(st:bs):Prop:=
 match e with
 | .normal=> ∃bS oR,bS<k∧iG ob st oR∧gZ bS oR
 |e=>Q e st
theorem Ei{gZ:Nat→bs→Prop}{k:Nat}:bK ob gZ k Q .normal st= ∃bS oR,bS<k∧iG ob st oR∧gZ bS oR:=rfl
theorem YC{gZ:Nat→bs→Prop}{k n:Nat}:bK ob gZ k Q (.exit n) st=Q (.exit n) st:=rfl
theorem YD{gZ:Nat→bs→Prop}{k:Nat}:bK ob gZ k Q .ret st=Q .ret st:=rfl
theorem ps(gZ:Nat→bs→Prop)(m:Nat)(wX:bs)(hw:iG ob st wX)(bn:gZ m wX)(h:∀k s,gZ k s→(∀i,ed (get i s.t))→(∀j cs,look j s.b=some cs→hU cs=true→ep cs)→cZ P ob a (bK ob gZ k Q) s):cZ P ob (.loop a) Q st:=by
 simp only[cZ];refine⟨gZ,m,wX,hw,bn,fun k s J U ar=>?_⟩;have:=h k s J U ar;have bo:(bK ob gZ k Q)=(fun e ai=>match e with| .normal=> ∃bS oR,bS<k∧iG ob ai oR∧gZ bS oR|e=>Q e ai):=by funext e ai;cases e<;>rfl
 rw[bo]at this;exact this
end
/-Regions cS draw lV order. -/
def ML(n0:Nat)(st:bs)(i:eo):Prop:=match eA (pk n0 i) st.n (pk n0 i::st.o) st i with|some (c,_)=>c|none=>eQ
def MM(n0:Nat)(st:bs)(i:eo):bs:=match eA (pk n0 i) st.n (pk n0 i::st.o) st i with|some (_,s)=>s|none=>st
def HY(P:cE)(q:Bool)(nw:List Nat)(n0:Nat)(r:List c6)(K:bs→Prop)(st:bs):Prop:=hQ P q nw n0 r st K
def pY(P:cE)(q:Bool)(nw:List Nat)(n0:Nat)(v:ah)(s:Nat)(w:Bool)(i:ei)(r:List c6)(st:bs)(K:bs→Prop):Prop:=
 match v with
 | .bool b=>(b=w→hQ P q nw n0 (⟨none,i⟩::r) {st with t:=put s (.bool w) st.t} K)∧(b= !w→hQ P q nw n0 r {st with t:=eM i.dst (.tuple []) (put s (.bool !w) st.t)} K)
 | .tuple []=>hQ P q nw n0 r {st with t:=eM i.dst (.tuple []) st.t} K
 |_=>eQ
def Jd(P:cE)(q:Bool)(nw:List Nat)(n0:Nat)(v:ah)(d:aZ Nat)(xs:List ah)(r:List c6)(st:bs)(K:bs→Prop):Prop:=
 match v with
 | .func n dj=>h6 P q nw n (cR (xs++dj)) st d (HY P q nw n0 r K)
 |_=>eQ
section
variable {P:cE} {ob:List aI} {st:bs} {K:bs→Prop} {r:List c6} {Q:Exit→bs→Prop} {c:C} {q:Bool} {nw:List Nat} {n0 N:Nat}
theorem aa0:hQ P q nw n0 [] st K=K st:=rfl
theorem aa1{i:eo}:hQ P q nw n0 (⟨none,.s i⟩::r) st K=(l3 q nw n0 st i∧ML n0 st i∧hQ P q nw n0 r (MM n0 st i) K):=by
 simp only[hQ,kr,ML,MM];cases eA (pk n0 i) st.n (pk n0 i::st.o) st i with
 |none=>simp
 |some x=>rfl
theorem aaY{d:aZ Nat}{f:dr}{xs:List dr}:hQ P q nw n0 (⟨none,.call d f xs⟩::r) st K=Jd P q nw n0 (cr st.t f) d (xs.map (cr st.t)) r st K:=by simp only[hQ,kr,Jd];rfl
theorem aaX{n:Nat}{dj:List ah}{d:aZ Nat}{xs:List ah}:Jd P q nw n0 (.func n dj) d xs r st K=h6 P q nw n (cR (xs++dj)) st d (HY P q nw n0 r K):=rfl
theorem aaZ{s:Nat}{w:Bool}{i:ei}:hQ P q nw n0 (⟨some (s,w),i⟩::r) st K=pY P q nw n0 (get s st.t) s w i r st K:=by simp only[hQ,pY];try rfl
theorem aa6{s:Nat}{i:ei}:pY P q nw n0 (.bool true) s true i r st K=hQ P q nw n0 (⟨none,i⟩::r) {st with t:=put s (.bool true) st.t} K:=by simp[pY]
theorem aa2{s:Nat}{i:ei}:pY P q nw n0 (.bool false) s false i r st K=hQ P q nw n0 (⟨none,i⟩::r) {st with t:=put s (.bool false) st.t} K:=by simp[pY]
theorem aa5{s:Nat}{i:ei}:pY P q nw n0 (.bool true) s false i r st K=hQ P q nw n0 r {st with t:=eM i.dst (.tuple []) (put s (.bool true) st.t)} K:=by simp[pY]
theorem aa3{s:Nat}{i:ei}:pY P q nw n0 (.bool false) s true i r st K=hQ P q nw n0 r {st with t:=eM i.dst (.tuple []) (put s (.bool false) st.t)} K:=by simp[pY]
theorem aa4{s:Nat}{w:Bool}{i:ei}:pY P q nw n0 (.tuple []) s w i r st K=hQ P q nw n0 r {st with t:=eM i.dst (.tuple []) st.t} K:=by simp[pY]
theorem bQ{x:Bool}{s:Nat}{w:Bool}{i:ei}(J:x=w→hQ P q nw n0 (⟨none,i⟩::r) {st with t:=put s (.bool w) st.t} K)(U:x= !w→hQ P q nw n0 r {st with t:=eM i.dst (.tuple []) (put s (.bool !w) st.t)} K):pY P q nw n0 (.bool x) s w i r st K:=⟨J,U⟩
theorem aaD{gs:List c6}:cZ P ob (.seq (.drawn q N gs) c) Q st=hQ P q [] st.n gs st (tN (st.n+N) st.o (y7 P ob c Q)):=rfl
theorem aaE{gs:List c6}:cZ P ob (.drawn q N gs) Q st=hQ P q [] st.n gs st (tN (st.n+N) st.o (Q .normal)):=rfl
theorem aaF{gs:List c6}:cZ P ob (.seq (.drawnW nw N gs) c) Q st=((∀j∈nw,.obj j∉st.o)∧hQ P false nw st.n gs st (tN (st.n+N) (nw.map aI.obj++st.o) (y7 P ob c Q))):=rfl
theorem aaG{gs:List c6}:cZ P ob (.drawnW nw N gs) Q st=((∀j∈nw,.obj j∉st.o)∧hQ P false nw st.n gs st (tN (st.n+N) (nw.map aI.obj++st.o) (Q .normal))):=rfl
theorem h6.val{n:Nat}{args:List ah}{d:aZ Nat}{r:ah}(ab:aH (fun _=>eQ) args)(aL:bH P n args r)(h:K {st with t:=eM d r st.t}):h6 P q nw n args st d K:=by
 refine .inr ⟨⟨[],[]⟩,⟨[],[]⟩,r,none,fun k cs ab=>by simp[look]at ab,fun k cs ab=>by simp[look]at ab,yq,yq,⟨fun k h=>.inl h,fun k h=>.inl h,fun k h=>h,fun k h=>h,fun k h=>by cases h⟩,jZ (fun _ h=>h.elim) _ ab,aL,fun _=>⟨rfl,rfl⟩,?_⟩;have:({after st ⟨[],[]⟩ ⟨[],[]⟩ d r with o:=st.o}:bs)={st with t:=eM d r st.t}:=by simp[after,NH]
 rw[this];exact h
theorem aD{n:Nat}{args:List ah}{d:aZ Nat}{r:ah}(aL:bH P n args r)(h:K {st with t:=eM d r st.t})(ab:aH (fun _=>eQ) args:=by simp):h6 P q nw n args st d K:=h6.val ab aL h
end
section
variable {k:IntKind} {n:Int} {b:Bool} {s:List dE} {sz:Nat} {tag:Bw} {xs:List ah} {key:aI} {off f:Nat} {x:ah}
@[simp] theorem as2:ec (.int k n)=true:=rfl
@[simp] theorem asO:ec (.bool b)=true:=rfl
@[simp] theorem atc:ec (.str s)=true:=rfl
@[simp] theorem atb:ec (.slice sz tag xs)=true:=rfl
@[simp] theorem asK:ec (.agg xs)=true:=rfl
@[simp] theorem as9:ec (.ptr key off)=true:=rfl
@[simp] theorem asY:ec (.eptr x)=true:=rfl
@[simp] theorem as1{t:Nat}:ec (.iface t x)=true:=rfl
@[simp] theorem aoW{t:Nat}:cells (.iface t x)=[.iface t x]:=rfl
@[simp] theorem asQ{a:aZ Addr}{n c:Nat}:ec (.cst (.slice a n c))=true:=rfl
@[simp] theorem asR{s}:ec (.cst (.string s))=true:=rfl
@[simp] theorem as8:ec .nilp=true:=rfl
@[simp] theorem asZ:ec (.func f xs)=true:=rfl
@[simp] theorem as0:ec (.gmap key)=true:=rfl
@[simp] theorem ata{n:Nat}:ec (.row sz key n)=true:=rfl
@[simp] theorem ao6{n:Nat}:cells (.row sz key n)=[.row sz key n]:=rfl
@[simp] theorem aoX:cells (.int k n)=[.int k n]:=rfl
@[simp] theorem aoL:cells (.bool b)=[.bool b]:=rfl
@[simp] theorem ao8:cells (.str s)=[.str s]:=rfl
@[simp] theorem ao7:cells (.slice sz tag xs)=[.slice sz tag xs]:=rfl
@[simp] theorem aoH:cells (.agg xs)=xs:=rfl
@[simp] theorem ao5:cells (.ptr key off)=[.ptr key off]:=rfl
@[simp] theorem aoT:cells (.eptr x)=[.eptr x]:=rfl
@[simp] theorem ao4:cells .nilp=[.nilp]:=rfl
@[simp] theorem aoU:cells (.func f xs)=[.func f xs]:=rfl
@[simp] theorem aoV:cells (.gmap key)=[.gmap key]:=rfl
end
section
variable {b:List (aI×List ah)} {e:List (aI×fN)} {agg:Bool} {sz off:Nat} {k:aI} {p:ah} {cs xs aV:List ah} {fl:IntKind} {n i:Int} {m j:Nat} {tag:Bw} {s:List dE} {Ow:Bool} {lo hi:aZ ah}
@[simp] theorem aq9{dI:Nat}{f:Nat}:mK b e agg sz (.rptr dI k m j f)=yJ agg sz dI m j f (look k e):=rfl
@[simp] theorem aq8:mK b e agg sz (.ptr k off)=(match look k b with
  |some cs=>if agg then some (hU cs=true∧off+sz≤cs.length,.agg ((cs.drop off).take sz))else(cs[off]?).map fun p=>(hU cs=true,p)
  |none=>none):=rfl
@[simp] theorem aq7:mK b e agg sz (.eptr p)=if agg then some (isAgg sz p,p)else some (ec p=true∧cells p=[p],p):=rfl
@[simp] theorem apC:B1 agg sz (.eptr p)=if agg then some (isAgg sz p,p)else some (ec p=true∧cells p=[p],p):=rfl
@[simp] theorem aps{o:Nat}:p0 off agg sz (.ptr k o)=some (True,.ptr k (o+off)):=rfl
@[simp] theorem apt{dI f:Nat}:p0 off agg sz (.rptr dI k m j f)=some (True,.rptr dI k m j (f+off)):=rfl
@[simp] theorem apk:p0 off agg sz (.eptr (.agg cs))=if agg then some (off+sz≤cs.length,.eptr (.agg ((cs.drop off).take sz)))else(cs[off]?).map fun p=>(ec p=true∧cells p=[p],.eptr p):=rfl
@[simp] theorem apv:rC off agg sz (.agg cs)=if agg then some (off+sz≤cs.length,.agg ((cs.drop off).take sz))else(cs[off]?).map fun p=>(True,p):=rfl
@[simp] theorem ap8{dI:Nat}:Ae sz (.slice dI tag xs) (.int fl i)=if dI=sz then some (0≤i∧i<xs.length,.eptr (xs.getD i.toNat .junk))else none:=rfl
@[simp] theorem ap7{dI:Nat}:Ae sz (.row dI k m) (.int fl i)=if dI=sz then some (0≤i∧i<m,.rptr dI k m i.toNat 0)else none:=rfl
@[simp] theorem aq6{dI:Nat}:Ao (.slice dI tag xs)=some (True,.int .i64 xs.length):=rfl
@[simp] theorem aq5{dI:Nat}:Ao (.row dI k m)=some (True,.int .i64 m):=rfl
@[simp] theorem aq4{a:aZ Addr}{n c:Nat}:Ao (.cst (.slice a n c))=some (True,.int .i64 n):=rfl
@[simp] theorem asI{s}:DT (.cst (.string s))=some (True,.int .i64 s.size):=rfl
@[simp] theorem asJ:DT (.str s)=some (True,.int .i64 s.length):=rfl
@[simp] theorem apj:zq j (.tuple aV)=(aV[j]?).map fun p=>(True,p):=rfl
@[simp] theorem arD:AA (.ptr k off)=some (True,.ptr k off):=rfl
@[simp] theorem arB:AA (.eptr p)=some (True,.eptr p):=rfl
@[simp] theorem arC:AA (.func j cs)=some (True,.func j cs):=rfl
@[simp] theorem arE:GF (.bool Ow)=some (True,.bool (!Ow)):=rfl
@[simp] theorem asH:Ht (.str s) (.int fl i)=some (0≤i∧i<s.length,.int .u8 (s.getD i.toNat 0).toNat):=rfl
@[simp] theorem atf:Hy (.str s) lo hi=(match q1 0 lo,q1 s.length hi with
  |some l,some h=>some (0≤l∧l≤h∧h≤s.length,.str ((s.take h.toNat).drop l.toNat))
  |_,_=>none):=rfl
@[simp] theorem ara{dI:Nat}:Gr sz (.slice dI tag xs) lo hi=(if dI=sz then match q1 0 lo,q1 xs.length hi with
  |some l,some h=>some (0≤l∧l≤h∧h≤xs.length,.slice sz .no ((xs.take h.toNat).drop l.toNat))
  |_,_=>none else none):=rfl
theorem UO{f:aI→aZ (List ah)}{ch:jA}{z q:ah}{ok:Bool}:nY f ch z ok (.gmap k) q=(match f k with
  |some (.hdm _ _::kvs)=>if uO ch q=false then none else match wD ch q kvs with
   |some (some v)=>some (True,if ok then .tuple [v,.bool true]else v)
   |some none=>some (True,if ok then .tuple [z,.bool false]else z)
   |none=>none
  |_=>none):=rfl
theorem ahL{f:aI→aZ (List ah)}:uZ f (.gmap k)=(match f k with
  |some (.hdm _ borns::_)=>some (True,.int .i64 borns.length)
  |_=>none):=rfl
theorem UL{f:aI→aZ (List ah)}:pG f (.ptr k 0)=(match f k with
  |some [.hdi _ seen last,.gmap mk]=>match f mk with
   |some (.hdm clock borns::kvs)=>match seen.getLast? with
    |some n=>(mL n borns kvs).map fun p=>(clock=last,p)
    |none=>none
   |_=>none
  |_=>none):=rfl
@[simp] theorem asC{dI f n' el jk:Nat}:yJ agg sz dI m j f (some ⟨n',el,jk,some xs⟩)=(if n'=m∧jk=dI then
   (match xs[j]? with
    |some p=>if agg then some (ec p=true∧f+sz≤(cells p).length,.agg (((cells p).drop f).take sz))else((cells p)[f]?).map fun q=>(ec p=true,q)
    |none=>none)else none):=rfl
end
attribute [simp] aay aaP aaz aaB aaT aaR aaH aaU aaS aaI aaQ aaA aaC y7 Yv Yu Yw YC YD abb abc aa8 aa7 aa9
 abh abd abg abe abf aaW aaV MN MO mf hj kn cr get put jM qc nv nx cB q1 xp F3 HA n3 ua GP GA E0 Gz
 look eM eo.dst ei.dst sc El sD cR dm aB aH
 aaD aaE aaF aaG aa0 aa1 aaY aaX aaZ aa6 aa2 aa5 aa3 aa4 ML MM eA pk l3 xE fS.loadO tN HY yc hU sE aba aaN aaO aaJ aaK aaL aaM vI JD sH zv YH wN DA wM q8 mN iv Gv
theorem aC{P:cE}{n:Nat}{args:List ah}{st:bs}{d:aZ Nat}{K:bs→Prop}{r:ah}(aL:bH P n args r)(h:K {st with t:=eM d r st.t})(ab:aH (fun _=>eQ) args:=by simp):c8 P n args st d K:=c8.val ab aL h
theorem aj{a b:Prop}(ad:b)(bz:a:=by first|omega|(unfold ta;omega)|(unfold lim;omega)):a∧b:=⟨bz,ad⟩
theorem cm{p:Prop}(h:eQ:=by first|contradiction|omega):p:=h.elim
theorem bY{p:Prop}(h:p:=by(try simp[*]);(repeat' first|with_reducible refine aj ?_|with_reducible refine aC (by assumption) ?_|with_reducible refine aD (by assumption) ?_|simp[*]);(all_goals first|done|(simp[bt,aX,aY,aW, *];done))):p:=h
end Go.Pv
namespace Go.Pv
open Go Go.RowKit
structure eh (s:cK):Prop where
 obj:iQ s
 kb:∀k cs,look k s.b=some cs→aH (inObs s) cs
 ke:∀k o,look k s.e=some o→dN (inObs s) o
structure Same (s ai:cK):Prop where
 b:∀k,(look k s.b).isSome=(look k ai.b).isSome
 e:∀k,(look k s.e).isSome=(look k ai.e).isSome
theorem Same.refl(s:cK):Same s s:=⟨fun _=>rfl,fun _=>rfl⟩
theorem Same.inObs{s ai:cK}(h:Same s ai)(k:aI):inObs s k↔inObs ai k:=by unfold Pv.inObs;rw[h.b,h.e]
theorem uW{α:Type}{k:aI}{x:α}:∀{l:List (aI×α)},(k,x)∈l→(look k l).isSome
 |(i,y)::r,h=>by
  simp only[look];split
  ·rfl
  ·rename_i cF;rcases fR.1 h with h|h
   ·cases h;exact absurd rfl cF
   ·exact uW h
theorem Tt{s:cK}{k:aI}(h:k∈cX s):inObs s k:=by
 unfold cX at h;rcases kQ.1 h with h|h
 ·obtain⟨⟨bS,x⟩,J,rfl⟩:=h5.1 h;exact .inl (uW J)
 ·obtain⟨⟨bS,x⟩,J,rfl⟩:=h5.1 h;exact .inr (uW J)
theorem j1{s:cK}(h:iQ s)(m:Nat):aI.loc m∉cX s:=fun hm=>by
 rcases Tt hm with J|J
 ·rw[h.1 m]at J;cases J
 ·rw[h.2 m]at J;cases J
theorem iA{α β:Type}(s:List (aI×β)):∀(a b:List (aI×α)),cz s (a++b)=cz s a++cz s b
 |[],b=>rfl
 |(k,x)::r,b=>by
  simp only[bX,cz];cases look k s with
  |none=>simp[iA s r b]
  |some _=>exact iA s r b
theorem NI{α β:Type}(s:List (aI×β)):∀(l:List (aI×α)),(∀k x,(k,x)∈l→(look k s).isSome)→cz s l=[]
 |[],_=>rfl
 |(k,x)::r,h=>by
  have J:=h k x (by simp);simp only[cz];cases aw:look k s with
  |none=>rw[aw]at J;cases J
  |some _=>exact NI s r fun k x af=>h k x (by simp[af])
theorem gW{α:Type}(s:List (aI×α)):cz s s=[]:=NI s s fun k x h=>uW h
theorem j8{α:Type}{k:aI}{x:α}:∀{l:List (aI×α)},look k l=none→cB k x l=l++[(k,x)]
 |[],_=>rfl
 |(i,y)::r,h=>by
  simp only[look]at h;split at h
  ·cases h
  ·rename_i cF;simp[cB,cF,j8 h]
theorem cI{α:Type}(k:aI):∀(a b:List (aI×α)),look k (a++b)=match look k a with|some x=>some x|none=>look k b
 |[],b=>rfl
 |(i,y)::r,b=>by
  simp only[bX,look];split
  ·rfl
  ·exact cI k r b
theorem c8.ob{P:cE}{n:Nat}{args:List ah}{st:bs}{d:aZ Nat}{K:bs→Prop}{s:cK}{Q:ah→cK→Prop}(aL:bU P n args s Q)(ag:eh s)(ad:∀k cs,look k s.b=some cs→look k st.b=some cs)(he:∀k o,look k s.e=some o→look k st.e=some o)
  (ab:aH (inObs s) args) (h:∀r ai,Q r ai→Same s ai∧K ⟨eM d r st.t,cz s.b st.b++ai.b,cz s.e st.e++ai.e,st.n,st.o++cX ai⟩):c8 P n args st d K:=by
 refine .inl ⟨s,Q,fun k cs au=>⟨ad k cs au,.inl (by simp[au]),ag.kb k cs au⟩,fun k o ax=>⟨he k o ax,.inr (by simp[ax]),ag.ke k o ax⟩,ag.obj,ab,aL,fun r ai bo=>?_⟩;obtain⟨J,U⟩:=h r ai bo;exact⟨⟨fun m hm=>.inl (by rw[J.b];exact hm),fun m hm=>.inl (by rw[J.e];exact hm)⟩,U⟩
theorem cV.ob{fk:List bA}{s ai:cK}{Q:ah→cK→Prop}{e:Exit}{st:bs}{c:Prop}{cx:List ah}(uv:e= .ret∨e= .normal)(x4:aX st fk=some (c,cx))(au:c)(ag:eh ai)(fc:Same s ai)(ad:∀k cs,look k ai.b=some cs→look k st.b=some cs)(dz:∀k o,look k ai.e=some o→look k st.e=some o)
  (ab:aB (inObs ai) (dm (aW cx))) (bo:Q (dm (aW cx)) ai):cV fk s Q e st:=by
 refine⟨uv,?_⟩;rw[x4];have SK:∀{α:Type} (l:List (aI×α)),(∀k x,(k,x)∈l→inObs ai k)→mc ai l:=by
  intro α l;induction l with
  |nil=>intro _;trivial
  |cons x r bO=>obtain⟨k,x⟩:=x;intro h;exact⟨h k x (by simp),bO fun k x af=>h k x (by simp[af])⟩
 exact⟨au,ai,SK _ fun k x af=>.inl (by rw[←fc.b];exact uW af),SK _ fun k x af=>.inr (by rw[←fc.e];exact uW af),fun k cs dn=>⟨ad k cs dn,.inl (by simp[dn]),ag.kb k cs dn⟩,fun k o ax=>⟨dz k o ax,.inr (by simp[ax]),ag.ke k o ax⟩,ag.obj,ab,bo⟩
theorem bU.mono{P:cE}{f:FuncId}{args:List ah}{s:cK}{Q qz:ah→cK→Prop}(h:bU P f args s Q)(bo:∀r ai,Q r ai→qz r ai):bU P f args s qz:=by
 intro w ν aV J U ar;have hm:∀(e:Ending) (w':World),(∃v r ai bq,e= .returned v∧Q r ai∧bc w' bq r v∧Good (fun bl=>fx ν s bl∨w.heap.size≤bl) w' bq ai.b ai.e∧pt bq ai∧iQ ai∧qx ⟨w,ν,fx ν s,0,cX s⟩ w' bq)→(∃v r ai bq,e= .returned v∧qz r ai∧bc w' bq r v∧Good (fun bl=>fx ν s bl∨w.heap.size≤bl) w' bq ai.b ai.e∧pt bq ai∧iQ ai∧qx ⟨w,ν,fx ν s,0,cX s⟩ w' bq):=by rintro e w' ⟨v,r,ai,bq,bD,a2,a3⟩;exact⟨v,r,ai,bq,bD,bo _ _ a2,a3⟩
 rcases h w ν aV J U ar with⟨qQ,au⟩|⟨v,w',au,aJ⟩
 ·exact .inl ⟨qQ,au.mono hm⟩
 ·exact .inr ⟨v,w',au,hm _ _ aJ⟩
theorem Dh{s:cK}{k:aI}(h:inObs s k):¬fresh 0 (cX s) k:=fun aL=>aL.2 (tn h)
theorem iG.ob{s:cK}(ag:eh s){st:bs}{dO:List (Nat×ah)}(aK:∀x∈dO,get x.1 st.t=x.2∧aB (inObs s) x.2)(ad:∀k cs,look k s.b=some cs→look k st.b=some cs)(he:∀k o,look k s.e=some o→look k st.e=some o):
  iG (cX s) st ⟨dO,s.b,s.e,0,cX s⟩:=
 ⟨fun x af=>⟨(aK x af).1,wx (fun k ab=>Dh ab) _ (aK x af).2⟩,fun k cs au=>⟨ad k cs au,Dh (.inl (by simp[au])),jZ (fun k ab=>Dh ab) _ (ag.kb k cs au)⟩,
  fun k o ax=>⟨he k o ax,Dh (.inr (by simp[ax])),fun xs af=>jZ (fun k ab=>Dh ab) _ (ag.ke k o ax xs af)⟩,fun m hm=>hm⟩
def c1(st:bs)(fk:List bA)(R:ah→Prop):Prop:=match aX st fk with
 |some (c,cx)=>c∧R (dm (aW cx))
 |none=>eQ
theorem cV.at{fk:List bA}{s:cK}{Q:ah→cK→Prop}{e:Exit}{st:bs}(ai:cK)(uv:e= .ret∨e= .normal)(ag:eh ai)(fc:Same s ai)(ad:∀k cs,look k ai.b=some cs→look k st.b=some cs)(dz:∀k o,look k ai.e=some o→look k st.e=some o)
  (h:c1 st fk fun r=>aB (inObs ai) r∧Q r ai):cV fk s Q e st:=by
 unfold c1 at h;split at h
 ·rename_i c cx aJ;exact cV.ob uv aJ h.1 ag fc ad dz h.2.1 h.2.2
 ·exact h.elim
theorem h6.ob{P:cE}{nw:List Nat}{n:Nat}{args:List ah}{st:bs}{d:aZ Nat}{K:bs→Prop}{s ai:cK}{r:ah}(aL:bU P n args s fun eF dO=>eF=r∧dO=ai)(ag:eh s)(fi:eh ai)(fc:Same s ai)(ad:∀k cs,look k s.b=some cs→look k st.b=some cs)(he:∀k o,look k s.e=some o→look k st.e=some o)
  (ab:aH (inObs s) args) (h:K ⟨eM d r st.t,cz s.b st.b++ai.b,cz s.e st.e++ai.e,st.n,st.o⟩):h6 P false nw n args st d K:=
 .inr ⟨s,ai,r,none,fun k cs au=>⟨ad k cs au,.inl (by simp[au]),ag.kb k cs au⟩,fun k o ax=>⟨he k o ax,.inr (by simp[ax]),ag.ke k o ax⟩,ag.obj,fi.obj,⟨fun k ab=>.inl (by rw[fc.b];exact ab),fun k ab=>.inl (by rw[fc.e];exact ab),fun k ab=>by rw[←fc.b];exact ab,fun k ab=>by rw[←fc.e];exact ab,fun k ab=>by cases ab⟩,ab,aL,(fun e=>by cases e),h⟩
theorem eh.of{s:cK}(ax:iQ s)(ad:∀x∈s.b,aH (inObs s) x.2)(he:∀x∈s.e,∀xs,x.2.xs=some xs→aH (inObs s) xs):eh s:=⟨ax,fun k cs ab=>ad (k,cs) (th ab),fun k o ab xs af=>he (k,o) (th ab) xs af⟩
@[simp] theorem arF(b:List (aI×List ah))(e:List (aI×fN)):cX ⟨b,e⟩=b.map (·.1)++e.map (·.1):=rfl
theorem Bi{α:Type}{k:aI}{p:α}:∀{a r:List (aI×α)},look k a=none→cB k p (a++r)=a++cB k p r
 |[],_,_=>rfl
 |(i,y)::a,r,h=>by
  simp only[look]at h;split at h
  ·cases h
  ·rename_i cF;simp[cB,cF,Bi h]
theorem ag4{α:Type}{s b:List (aI×α)}(h:∀p∈s,look p.1 b=some p.2):∀k x,look k s=some x→look k b=some x:=fun k x af=>h (k,x) (th af)
theorem dZ{S:aI→Prop}{b5 b:List (aI×List ah)}(h:∀p∈b5,look p.1 b=some p.2∧S p.1∧aH S p.2):gG S b5 b:=fun k x af=>h (k,x) (th af)
theorem ea{S:aI→Prop}{b5 b:List (aI×fN)}(h:∀p∈b5,look p.1 b=some p.2∧S p.1∧dN S p.2):oV S b5 b:=fun k x af=>h (k,x) (th af)
theorem aR{α:Type}{s b:List (aI×α)}(h:∀k x,look k s=some x→look k b=some x:=by first|(refine ag4 ?_;simp;done)|(intro k x af;first|exact af|(simp[af,gW];done)|(simp[cI,gW,af];done)|(cases k<;>simp_all[cI];done))):∀k x,look k s=some x→look k b=some x:=h
theorem bN{ob:List aI}{st st':bs}(J:∀x∈st'.t,get x.1 st.t=x.2∧aB (fun k=> ¬fresh st'.n st'.o k) x.2:=by simp[fresh,aH,aB,b9,inObs,Pv.look])(U:∀p∈st'.b,look p.1 st.b=some p.2∧(¬fresh st'.n st'.o p.1)∧aH (fun k=> ¬fresh st'.n st'.o k) p.2:=by simp[fresh,aH,aB,b9,inObs,Pv.look])(ar:∀p∈st'.e,look p.1 st.e=some p.2∧(¬fresh st'.n st'.o p.1)∧dN (fun k=> ¬fresh st'.n st'.o k) p.2:=by simp[fresh,aH,aB,dN,inObs,Pv.look])(ba:∀m∈ob,m∈st'.o:=by simp):iG ob st st':=⟨J,dZ U,ea ar,ba⟩
theorem bK.next{ob:List aI}{gZ:Nat→bs→Prop}{k:Nat}{Q:Exit→bs→Prop}{st:bs}(bS:Nat){ai:bs}(ab:bS<k)(hi:gZ bS ai)(hw:iG ob st ai):bK ob gZ k Q .normal st:=⟨bS,ai,ab,hw,hi⟩
def ks:List (Int×ah)→List ah
 |[]=>[]
 |(k,v)::r=>.int .i64 k::v::ks r
def jL(l:List (Int×ah)):List ah:= .hdm l.length (List.range l.length)::ks l
def xl(k:Int):List (Int×ah)→aZ ah
 |[]=>none
 |(i,v)::r=>if k=i then some v else xl k r
def pe(k:Int)(v:ah):List (Int×ah)→aZ (List (Int×ah))
 |[]=>none
 |(i,w)::r=>if k=i then some ((k,v)::r)else match pe k v r with|some eF=>some ((i,w)::eF)|none=>none
def Ex(k:Int)(v:ah)(l:List (Int×ah)):List (Int×ah):=match pe k v l with|some a1=>a1|none=>l++[(k,v)]
@[simp] theorem arn:[ah.hdm 0 []]=jL []:=rfl
theorem RK:∀a b,ks (a++b)=ks a++ks b
 |[],_=>rfl
 |(k,v)::r,b=>by simp[ks,RK r b]
theorem UM(k:Int):∀l,wD .i (.int .i64 k) (ks l)=some (xl k l)
 |[]=>rfl
 |(i,v)::r=>by
  simp only[ks,wD,te,xl];by_cases h:k=i
  ·simp[h]
  ·have:(k==i)=false:=by simp[h]
   simp[h,UM k r,this]
theorem Oh{k:Int}{v:ah}:∀{l a1},pe k v l=some a1→a1.length=l.length
 |[],_,h=>by simp[pe]at h
 |(i,w)::r,a1,h=>by
  simp only[pe]at h;split at h
  ·cases h;rfl
  ·split at h
   ·rename_i eF aJ;cases h;simp[Oh aJ]
   ·cases h
theorem UZ(k:Int)(v:ah):∀l,u0 .i (.int .i64 k) v (ks l)=some ((pe k v l).map ks)
 |[]=>rfl
 |(i,w)::r=>by
  simp only[ks,u0,te,pe];by_cases h:k=i
  ·subst h;simp[ks]
  ·simp only[and_self,if_true,h,if_false,dQ,UZ k v r];have:(k==i)=false:=by simp[h]
   rw[this];cases pe k v r<;>simp[ks]
@[simp] theorem UY(k:Int)(v:ah)(l:List (Int×ah)):oO .i (.int .i64 k) v (jL l)=some (jL (Ex k v l)):=by
 simp only[jL,oO,TZ,Bool.true_eq_false,reduceCtorEq,if_false,UZ,Ex];cases h:pe k v l with
 |some a1=>simp[Oh h]
 |none=>simp[RK,ks,List.range_succ]
@[simp] theorem ahu(f:aI→aZ (List ah))(m:aI)(l:List (Int×ah))(z:ah)(ok:Bool)(k:Int)(hm:f m=some (jL l)):nY f .i z ok (.gmap m) (.int .i64 k)=(match xl k l with
  |some v=>some (True,if ok then .tuple [v,.bool true]else v)
  |none=>some (True,if ok then .tuple [z,.bool false]else z)):=by
 simp only[UO,hm,jL,TZ,Bool.true_eq_false,reduceCtorEq,if_false,UM];cases xl k l<;>rfl
@[simp] theorem ahM(f:aI→aZ (List ah))(m:aI)(l:List (Int×ah))(hm:f m=some (jL l)):uZ f (.gmap m)=some (True,.int .i64 l.length):=by simp[ahL,hm,jL]
def b9(n:Nat)(seen:List Nat)(m:aI):List ah:=[.hdi n seen n,.gmap m]
@[simp] theorem asx(m:aI)(l:List (Int×ah)):wR m (jL l)=some (b9 l.length [] m):=rfl
@[simp] theorem arO(l:List (Int×ah)):hU (jL l)=false:=rfl
theorem Lk(b:Nat):∀(n:Nat) (l:List (Int×ah)),mL b (List.range' n l.length) (ks l)=(if n≤b then(l[b-n]?).map fun x=>.tuple [.int .i64 x.1,x.2]else none)
 |n,[]=>by simp[mL,ks]
 |n,(k,v)::r=>by
  simp only[o6,List.range'_succ,ks,mL];by_cases h:n=b
  ·subst h;simp
  ·rw[if_neg h,Lk b (n+1) r];by_cases U:n≤b
   ·rw[if_pos U,if_pos (by omega)];have:b-n=(b-(n+1))+1:=by omega
    rw[this];simp
   ·rw[if_neg U,if_neg (by omega)]
@[simp] theorem UK(f:aI→aZ (List ah))(fl mk:aI)(n:Nat)(seen:List Nat)(b:Nat)(l:List (Int×ah))(hi:f fl=some (b9 n (seen++[b]) mk))(hm:f mk=some (jL l))(ay:n=l.length):pG f (.ptr fl 0)=(l[b]?).map fun x=>(True,.tuple [.int .i64 x.1,x.2]):=by subst ay;simp only[UL,hi,hm,b9,jL,List.getLast?_append,List.getLast?_singleton,Option.some_or,List.range_eq_range',Lk,Nat.zero_le,if_true,Nat.sub_zero,Option.map_map];cases l[b]?<;>simp
theorem Rj{st:bs}{d:Nat}{K:bs→Prop}{fl mk:aI}{n:Nat}{seen:List Nat}{l:List (Int×ah)}(hi:look fl st.b=some (b9 n seen mk))(hm:look mk st.b=some (jL l))(ay:n=l.length)
  (J:(∀b,b<n→b∈seen)→K {st with t:=put d (.tuple [.bool false]) st.t}) (U:∀b k v,l[b]? =some (k,v)→b∉seen→K {st with t:=put d (.tuple [.bool true,.int .i64 k,v]) st.t,b:=cB fl (b9 n (seen++[b]) mk) st.b}):
  sK st d (.ptr fl 0) K:=by
 subst ay;simp only[sK,hi,b9,hm,jL,Ly,and_self,true_and];refine⟨fun h=>J fun b ad=>h b (by simpa using ad),fun b k v xZ ad=>?_⟩;rw[List.range_eq_range',Lk]at xZ;simp only[Nat.zero_le,if_true,Nat.sub_zero,gz,ah.tuple.injEq,qs,and_true]at xZ;obtain⟨⟨bS,v'⟩,ak,aE,bj⟩:=xZ;simp only at aE bj;subst aE bj;exact U b bS v' ak ad
theorem aka{n:Nat}{seen:List Nat}(aQ:seen.Nodup)(bE:∀b∈seen,b<n)(lA:∀b,b<n→b∈seen):seen.Perm (List.range n):=(List.perm_ext_iff_of_nodup aQ List.nodup_range).2 fun b=>⟨fun h=>by simpa using bE b h,fun h=>lA b (by simpa using h)⟩
theorem Hq{n:Nat}{seen:List Nat}(aQ:seen.Nodup)(bE:∀b∈seen,b<n):seen.length≤n:=by have:=NP aQ (l₂:=List.range n) (fun b ad=>by simpa using bE b ad);simpa using this
theorem MS{n b:Nat}{seen:List Nat}(aQ:seen.Nodup)(bE:∀b∈seen,b<n)(ad:b<n)(ay:b∉seen):seen.length<n:=by have J:(b::seen).Nodup:=List.nodup_cons.2 ⟨ay,aQ⟩;have:=Hq J (n:=n) (by simp;exact⟨ad,bE⟩);simp at this;omega
theorem Ws{α:Type}:∀(l pre:List α),(List.range' pre.length l.length).filterMap (fun b=>(pre++l)[b]?)=l
 |[],_=>rfl
 |x::r,pre=>by have bO:=Ws r (pre++[x]);simp only[o5,List.length_singleton,List.append_assoc,List.singleton_append]at bO;simp[List.range'_succ,bO]
theorem MR{α:Type}{l:List α}{seen:List Nat}(aQ:seen.Nodup)(bE:∀b∈seen,b<l.length)(lA:∀b,b<l.length→b∈seen):(seen.filterMap fun b=>l[b]?).Perm l:=by have J:=(aka aQ bE lA).filterMap fun b=>l[b]?;have U:=Ws l [];simp only[List.length_nil,b2,←List.range_eq_range']at U;rwa[U]at J
theorem LC{b:Nat}{seen:List Nat}(aQ:seen.Nodup)(ay:b∉seen):(seen++[b]).Nodup:=by rw[List.nodup_append];exact⟨aQ,by simp,by simp;intro a bz e;subst e;exact ay bz⟩
theorem cU.start{w:World}{ν:bf}{s:cK}{args:List ah}{aV:Array Value}(pE:iQ s)(a7:Good (fx ν s) w ν s.b s.e)(af:pt ν s)(aJ:cQ w ν args aV.toList):
  cU ⟨w,ν,fx ν s,aV.size,cX s⟩ ⟨kn 0 args,s.b,s.e,0,cX s⟩ {tmps:=aV,defers:=[]} w ν:=by
 have ju:=DK aJ;have kX:aV.size=args.length:=by simpa using ju
 have oF:∀k,fresh 0 (cX s) k→ν.bx k=none∧ν.ow k=none∧∀j b,¬ν.tr k j b:=by
  intro k ab;cases k with
  |loc m=>exact⟨(af _).1 (pE.1 m),(af _).2.1 (pE.2 m),(af _).2.2⟩
  |obj m=>
   simp only[fresh,true_and]at ab;refine⟨?_,?_,(af _).2.2⟩
   ·refine(af _).1 ?_;cases h:look (.obj m) s.b with
    |none=>rfl
    |some x=>exact absurd (tn (.inl (by simp[h]))) ab
   ·refine(af _).2.1 ?_;cases h:look (.obj m) s.e with
    |none=>rfl
    |some x=>exact absurd (tn (.inr (by simp[h]))) ab
 have jr:∀m,(ν.bx (.obj m)≠none∨ν.ow (.obj m)≠none)→ .obj m∈cX s:=by
  intro m hm;refine Classical.byContradiction fun au=>?_;obtain⟨J,U,_⟩:=oF (.obj m) ⟨trivial,au⟩;rcases hm with hm|hm
  ·exact hm J
  ·exact hm U
 refine⟨⟨a7.alt,fun k cs ab=>?_,a7.inj,fun g o dC=>?_,a7.oinj,a7.obx,a7.one,a7.otr⟩,⟨rfl,rfl,rfl,eR _,fun _ _ _=>rfl,fun b o h=>⟨h,rfl⟩,fun b o h=>.inl h,fun n b h=>h,fun n b h=>jr n (.inl (by rw[h];simp)),fun m n u h=>⟨n,u,h,.inl ⟨rfl,rfl⟩⟩,fun m n u h=>jr m (.inr (by rw[h];simp)),fun k j _ _ b h=>absurd h ((af k).2.2 j b),fun k j b h=>absurd h ((af k).2.2 j b),fun k j b h=>absurd h ((af k).2.2 j b),fun _ _ _=>rfl⟩,rfl,rfl,fun i=>?_,oF⟩
 ·obtain⟨bl,us,el,g1,g2,g3⟩:=a7.box k cs ab;exact⟨bl,us,el,g1,.inl g2,g3⟩
 ·obtain⟨v,us,g1,g2,g3,g4⟩:=a7.own g o dC;exact⟨v,us,g1,g2,fun bl fb=>⟨.inl (g3 bl fb).1,(g3 bl fb).2⟩,g4⟩
 ·rw[JM];by_cases hi:i<args.length
  ·rw[if_pos (by omega)];have uA:args[i]? =some args[i]:=bZ hi;obtain⟨v,ak,aE⟩:=Hi i aJ uA;have I5:aV[i]? =some v:=by simpa using ak
   show bc w ν _ (aV.getD i undef);rw[Array.getD_eq_getD_getElem?,I5];simpa[List.getD,uA]using aE
  ·rw[if_neg (by omega)];simp[bc]
theorem bU.sem{P:cE}{f:FuncId}{args:List ah}{s:cK}{Q:ah→cK→Prop}(pE:iQ s)
  (h:∀(w:World) (ν:bf) (aV:Array Value),aV.size=args.length→cU ⟨w,ν,fx ν s,aV.size,cX s⟩ ⟨kn 0 args,s.b,s.e,0,cX s⟩ {tmps:=aV,defers:=[]} w ν→
   xb P f aV w fun e w'=> ∃v st' bp bq r ai,e= .returned v∧cU ⟨w,ν,fx ν s,aV.size,cX s⟩ st' bp w' bq∧bc w' bq r v∧mc ai s.b∧mc ai s.e∧gG (inObs ai) ai.b st'.b∧oV (inObs ai) ai.e st'.e∧iQ ai∧aB (inObs ai) r∧Q r ai):bU P f args s Q:=by
 intro w ν aV a7 af aJ;have kX:aV.size=args.length:=by simpa using DK aJ
 have p4:=cU.start pE a7 af aJ;have hm:∀(e:Ending) (w':World),(∃v st' bp bq r ai,e= .returned v∧cU ⟨w,ν,fx ν s,aV.size,cX s⟩ st' bp w' bq∧bc w' bq r v∧mc ai s.b∧mc ai s.e∧gG (inObs ai) ai.b st'.b∧oV (inObs ai) ai.e st'.e∧iQ ai∧aB (inObs ai) r∧Q r ai)→
   ∃v r ai bq,e= .returned v∧Q r ai∧bc w' bq r v∧Good (fun bl=>fx ν s bl∨w.heap.size≤bl) w' bq ai.b ai.e∧pt bq ai∧iQ ai∧qx ⟨w,ν,fx ν s,0,cX s⟩ w' bq:=by
  rintro e w' ⟨v,st',bp,bq,r,ai,rfl,dH,oP,kb,ke,a8,bF,b0,c0,da⟩;refine⟨v,r,ai,bq.cut (inObs ai),rfl,da,vd (pc.cut _ w' bq) _ _ c0 oP,dH.good.cut a8 bF (fun bl h _=>h),?_,b0,?_⟩
  ·intro k;refine⟨?_,?_,?_⟩;rotate_left 2
   ·rintro j b ⟨ag,ad⟩;obtain⟨t1,t2⟩:=dH.fr.trn k j b ad;rcases ag with ag|ag<;>obtain⟨x,ih⟩:=fM.1 ag
    ·obtain⟨bl,cn,el,ak,_⟩:=dH.good.box k x (a8 k x ih).1;rw[t1]at ak;cases ak
    ·obtain⟨v',cn,ak,_⟩:=dH.good.own k x (bF k x ih).1;rw[t2]at ak;cases ak
   ·intro ab;by_cases ag:inObs ai k
    ·rw[bf.cut_bx ag];rcases ag with ag|ag
     ·rw[ab]at ag;cases ag
     ·obtain⟨x,ih⟩:=fM.1 ag;obtain⟨v',cn,ak,_⟩:=dH.good.own k x (bF k x ih).1;rcases dH.good.one k with J|J
      ·exact J
      ·rw[J]at ak;cases ak
    ·exact(bf.cut_no ag).1
   ·intro ab;by_cases ag:inObs ai k
    ·rw[bf.cut_ow ag];rcases ag with ag|ag
     ·obtain⟨x,ih⟩:=fM.1 ag;obtain⟨bl,cn,el,ak,_⟩:=dH.good.box k x (a8 k x ih).1;rcases dH.good.one k with J|J
      ·rw[J]at ak;cases ak
      ·exact J
     ·rw[ab]at ag;cases ag
    ·exact(bf.cut_no ag).2.1
  ·refine⟨dH.fr.os,dH.fr.tape,dH.fr.output,dH.fr.size,dH.fr.block,dH.fr.keep,dH.fr.fresh,fun n b h=>?_,dH.fr.obn,fun m n u h=>?_,dH.fr.obr,fun k j bS dD b J U=>dH.fr.trd k j bS dD b J.2 U.2,fun k j b ad=>dH.fr.trb k j b ad.2,fun k j b ad=>(by rw[bf.cut_bx ad.1,bf.cut_ow ad.1];exact dH.fr.trn k j b ad.2),dH.fr.sh⟩
   ·have ag:inObs ai (.obj n):=by
     cases aw:look (.obj n) s.b with
     |none=>rw[(af _).1 aw]at h;cases h
     |some x=>exact Aj kb _ (by simp[aw])
    rw[bf.cut_bx ag];exact dH.fr.obj n b h
   ·have ag:inObs ai (.obj m):=by
     cases aw:look (.obj m) s.e with
     |none=>rw[(af _).2.1 aw]at h;cases h
     |some x=>exact Aj ke _ (by simp[aw])
    rw[bf.cut_ow ag];exact dH.fr.row m n u h
 rcases h w ν aV kX p4 with⟨qQ,au⟩|⟨v,w',au,x4⟩
 ·exact .inl ⟨qQ,au.mono hm⟩
 ·exact .inr ⟨v,w',au,hm _ _ x4⟩
theorem cU.grown{C:fh}{st:bs}{a:Act}{w w':World}{ν:bf}(h:cU C st a w ν)(a7:w.grownBy w' none):cU C st a w' ν:=by
 have kW:lv w ν w' ν:=⟨fun b o bk=>⟨bk,EX a7 (h.good.alt b o bk)⟩,fun _ _ _ h=>h,fun _ n u _ h=>⟨n,u,h,.inl ⟨rfl,rfl⟩⟩,fun b o bk=>wV (a7.block b (h.good.alt b o bk) (by simp)),fun _ _ _ _ h=>h⟩;refine h.over kW rfl ⟨fun b o bk=>Nat.lt_of_lt_of_le (h.good.alt b o bk) a7.size,fun k cs ab=>?_,h.good.inj,fun g o dC=>?_,h.good.oinj,h.good.obx,h.good.one,h.good.otr⟩
  ⟨a7.os.trans h.fr.os,a7.tape.trans h.fr.tape,a7.output.trans h.fr.output,jT h.fr.size a7.size,fun k ab hm=>?_,fun b o bk=>?_,h.fr.fresh,h.fr.obj,h.fr.obn,h.fr.row,h.fr.obr,h.fr.trd,fun k j b ad=>⟨(h.fr.trb k j b ad).1,Nat.lt_of_lt_of_le (h.fr.trb k j b ad).2 a7.size⟩,h.fr.trn,fun b o bk=>(kW.sh b o (h.fr.keep b o bk).1).trans (h.fr.sh b o bk)⟩ h.new
 ·obtain⟨bl,us,el,g1,g2,g3,g4,g5⟩:=h.good.box k cs ab;exact⟨bl,us,el,g1,g2,g3,by rw[a7.block bl (Array.getElem?_eq_some_iff.1 g4).1 (by simp)];exact g4,ql kW g5⟩
 ·obtain⟨v,us,g1,g2,g3,g4⟩:=h.good.own g o dC;exact⟨v,us,g1,g2.kept a7 (by cases v.ownBlock<;>simp),g3,sd kW (fun _ _ _ h=>h) g4⟩
 ·rw[a7.block k (Nat.lt_of_lt_of_le ab h.fr.size) (by simp)];exact h.fr.block k ab hm
 ·obtain⟨aU,bC⟩:=h.fr.keep b o bk;exact⟨aU,(kW.A b o aU).2.trans bC⟩
theorem c8.new{P:cE}{n:Nat}{args:List ah}{st:bs}{d:aZ Nat}{K:bs→Prop}{s:cK}{Q:ah→cK→Prop}(aL:bU P n args s Q)(ag:eh s)(ad:∀k cs,look k s.b=some cs→look k st.b=some cs)(he:∀k o,look k s.e=some o→look k st.e=some o)
  (ab:aH (inObs s) args) (h:∀r ai,Q r ai→(∀m,inObs ai (.obj m)→inObs s (.obj m)∧Same s ai∨ .obj m∉st.o)∧K ⟨eM d r st.t,cz s.b st.b++ai.b,cz s.e st.e++ai.e,st.n,st.o++cX ai⟩):c8 P n args st d K:=by
 refine .inl ⟨s,Q,fun k cs au=>⟨ad k cs au,.inl (by simp[au]),ag.kb k cs au⟩,fun k o ax=>⟨he k o ax,.inr (by simp[ax]),ag.ke k o ax⟩,ag.obj,ab,aL,fun r ai bo=>?_⟩;obtain⟨J,U⟩:=h r ai bo;refine⟨⟨fun m hm=>?_,fun m hm=>?_⟩,U⟩
 ·rcases J m (.inl hm)with⟨_,ar⟩|ar
  ·exact .inl (by rw[ar.b];exact hm)
  ·exact .inr ar
 ·rcases J m (.inr hm)with⟨_,ar⟩|ar
  ·exact .inl (by rw[ar.e];exact hm)
  ·exact .inr ar
theorem cV.new{fk:List bA}{s:cK}{Q:ah→cK→Prop}{e:Exit}{st:bs}(ai:cK)(uv:e= .ret∨e= .normal)(ag:eh ai)(fc:mc ai s.b∧mc ai s.e)(ad:∀k cs,look k ai.b=some cs→look k st.b=some cs)(dz:∀k o,look k ai.e=some o→look k st.e=some o)
  (h:c1 st fk fun r=>aB (inObs ai) r∧Q r ai):cV fk s Q e st:=by
 unfold c1 at h;split at h
 ·rename_i c cx aJ;refine⟨uv,?_⟩;rw[aJ];exact⟨h.1,ai,fc.1,fc.2,fun k cs dn=>⟨ad k cs dn,.inl (by simp[dn]),ag.kb k cs dn⟩,fun k o ax=>⟨dz k o ax,.inr (by simp[ax]),ag.ke k o ax⟩,ag.obj,h.2.1,h.2.2⟩
 ·exact h.elim
@[simp] theorem apg{P:cE}{ob:List aI}{c d:C}{Q:Exit→bs→Prop}{st:bs}{s:Nat}:cZ P ob (.seq (.pub s c) d) Q st=xf P ob (.seq c d) Q (wN st s):=by simp only[cZ];cases wN st s<;>rfl
@[simp] theorem apf{P:cE}{ob:List aI}{c d:C}{Q:Exit→bs→Prop}{st:bs}{s:Nat}:cZ P ob (.seq (.pubB s c) d) Q st=xf P ob (.seq c d) Q (wM st s):=by simp only[cZ];cases wM st s<;>rfl
end Go.Pv
namespace Go.Pv
open Go Go.RowKit
def uN(t:List (Nat×ah))(ch:List Nat):List (Nat×ah):=ch.map fun k=>(k,get k t)
@[simp] theorem aqm(t:List (Nat×ah)):uN t []=[]:=rfl
@[simp] theorem aql(t:List (Nat×ah))(k:Nat)(ch:List Nat):uN t (k::ch)=(k,get k t)::uN t ch:=rfl
def pH(st:bs)(ch:List Nat)(cs:List (Nat×ah)):bs:=⟨uN st.t ch++cs,st.b,st.e,st.n,st.o⟩
theorem ahJ(t:List (Nat×ah))(b:List (aI×List ah))(e:List (aI×fN))(n:Nat)(o:List aI)(ch:List Nat)(cs:List (Nat×ah)):pH ⟨t,b,e,n,o⟩ ch cs=⟨uN t ch++cs,b,e,n,o⟩:=rfl
def y4{α:Type}(S:Nat→α→bs)(n:Nat)(gP:Nat→α→Prop)(k:Nat)(st:bs):Prop:= ∃i a,i≤n∧k=n-i∧gP i a∧st=S i a
section
variable {P:cE} {ob:List aI} {st:bs} {Q:Exit→bs→Prop} {c:C} {α:Type}
theorem ho(S:Nat→α→bs)(n:Nat)(gP:Nat→α→Prop)(a0:α)(hw:iG ob st (S 0 a0))(bn:gP 0 a0)(vR:∀a,gP n a→(∀i,ed (get i (S n a).t))→cZ P ob c (bK ob (y4 S n gP) 0 Q) (S n a))
  (hc:∀i a,i<n→gP i a→(∀j,ed (get j (S i a).t))→cZ P ob c (bK ob (y4 S n gP) (n-i) Q) (S i a)):cZ P ob (.loop c) Q st:=by
 refine ps (y4 S n gP) n _ hw ⟨0,a0,by omega,by omega,bn,rfl⟩ ?_;rintro k s ⟨i,a,hi,rfl,ae,rfl⟩ ad _;rcases Nat.lt_or_ge i n with h|h
 ·exact hc i a h ae ad
 ·obtain rfl:i=n:=by omega
  rw[Nat.sub_self];exact vR a ae ad
theorem bK.rng{S:Nat→α→bs}{n:Nat}{gP:Nat→α→Prop}{i:Nat}(bp:α)(hi:i<n)(ae:gP (i+1) bp)(hw:iG ob st (S (i+1) bp)):bK ob (y4 S n gP) (n-i) Q .normal st:=⟨n-(i+1),_,by omega,hw,i+1,bp,by omega,rfl,ae,rfl⟩
def Bq{α:Type}(S:α→bs)(mQ:α→Nat)(gP:α→Prop)(k:Nat)(st:bs):Prop:= ∃a,k=mQ a∧gP a∧st=S a
theorem oz(S:α→bs)(mQ:α→Nat)(gP:α→Prop)(a0:α)(hw:iG ob st (S a0))(bn:gP a0)
  (hc:∀a,gP a→(∀j,ed (get j (S a).t))→cZ P ob c (bK ob (Bq S mQ gP) (mQ a) Q) (S a)):cZ P ob (.loop c) Q st:=by
 refine ps (Bq S mQ gP) (mQ a0) _ hw ⟨a0,rfl,bn,rfl⟩ ?_;rintro k s ⟨a,rfl,ae,rfl⟩ ad _;exact hc a ae ad
theorem bK.whl{S:α→bs}{mQ:α→Nat}{gP:α→Prop}{k:Nat}(bp:α)(hm:mQ bp<k)(ae:gP bp)(hw:iG ob st (S bp)):bK ob (Bq S mQ gP) k Q .normal st:=⟨mQ bp,_,hm,hw,bp,rfl,ae,rfl⟩
end
theorem gg{p:Prop}(h:p:=by(try simp[*]);(repeat' first|with_reducible refine aj ?_|with_reducible refine aC (by assumption) ?_|with_reducible refine aD (by assumption) ?_|simp[*]);(all_goals first|exact bK.rng () (by assumption) (by first|assumption|trivial) bN|exact bK.rng _ (by assumption) (by assumption) bN)):p:=h
end Go.Pv
namespace Go.Pv
open Go Go.RowKit
def me(s:cK)(n:Nat)(k:aI):Prop:=inObs s k∨ ∃m,m<n∧k= .loc m
@[simp] theorem U1(s:cK)(n m:Nat)(hm:m<n):me s n (.loc m):= .inr ⟨m,hm,rfl⟩
theorem AB{s:cK}{n:Nat}{l:List ah}(h:aH (inObs s) l):aH (me s n) l:=jZ (fun _ h=>.inl h) l h
theorem yp{s ai:cK}(fc:Same s ai){n:Nat}{k:aI}(h:me ai n k):¬fresh n (cX s) k:=by
 rcases h with h|⟨m,hm,rfl⟩
 ·exact fun aL=>aL.2 (tn ((fc.inObs k).2 h))
 ·intro aL;have:=aL.1;simp at this;omega
theorem iG.obL{s ai:cK}(fi:eh ai)(fc:Same s ai){st:bs}{dO:List (Nat×ah)}{L:List (aI×List ah)}{n:Nat}(aK:∀x∈dO,get x.1 st.t=x.2∧aB (me ai n) x.2)(jE:∀x∈L,look x.1 st.b=some x.2∧me ai n x.1∧aH (me ai n) x.2)
  (ad:∀k cs,look k ai.b=some cs→look k st.b=some cs) (he:∀k o,look k ai.e=some o→look k st.e=some o):iG (cX s) st ⟨dO,L++ai.b,ai.e,n,cX s⟩:=by
 refine⟨fun x af=>⟨(aK x af).1,wx (fun k ab=>yp fc ab) _ (aK x af).2⟩,fun k cs ab=>?_,fun k o ax=>?_,fun m hm=>hm⟩
 ·simp only at ab;rw[cI]at ab;cases aw:look k L with
  |some x=>rw[aw]at ab;simp only[dL]at ab;subst ab;obtain⟨J,U,ar⟩:=jE _ (th aw);exact⟨J,yp fc U,jZ (fun k ab=>yp fc ab) _ ar⟩
  |none=>rw[aw]at ab;exact⟨ad k cs ab,yp fc (.inl (.inl (by simp[ab]))),jZ (fun k ab=>yp fc (.inl ab)) _ (fi.kb k cs ab)⟩
 ·exact⟨he k o ax,yp fc (.inl (.inr (by simp at ax;simp[ax]))),fun xs af=>jZ (fun k ab=>yp fc (.inl ab)) _ (fi.ke k o ax xs af)⟩
def hf{α:Type}(l:List α)(i j:Nat):List α:=match l[i]?,l[j]? with
 |some x,some y=>(l.set i y).set j x
 |_,_=>l
section
variable {α:Type}
@[simp] theorem ahd(l:List α)(i j:Nat):(hf l i j).length=l.length:=by unfold hf;split<;>simp
theorem Aq(l:List α)(i j k:Nat)(hi:i<l.length)(ae:j<l.length):(hf l i j)[k]? =if k=i then l[j]? else if k=j then l[i]? else l[k]?:=by
 unfold hf;rw[bZ hi,bZ ae];simp only[List.getElem?_set,List.length_set];by_cases J:j=k
 ·subst J;by_cases U:j=i
  ·subst U;simp[hi]
  ·simp[U,ae]
 ·by_cases U:i=k
  ·subst U;simp[J,hi]
  ·simp[J,U,k6 J,k6 U]
theorem Uz(l:List α)(i j:Nat):(hf l i j).Perm l:=by
 unfold hf;split
 ·rename_i x y af aM;obtain⟨hi,rfl⟩:=e1.1 af;obtain⟨ae,rfl⟩:=e1.1 aM;exact List.set_set_perm hi ae
 ·exact .refl _
inductive gr (a b:Nat):List α→List α→Prop
 |refl (l:List α):gr a b l l
 |step {l m:List α} {i j:Nat}:gr a b l m→a≤i→i<b→a≤j→j<b→i<m.length→j<m.length→gr a b l (hf m i j)
theorem gr.length{a b:Nat}{l m:List α}(h:gr a b l m):m.length=l.length:=by
 induction h with
 |refl=>rfl
 |step _ _ _ _ _ _ _ bO=>rw[ahd,bO]
theorem gr.perm{a b:Nat}{l m:List α}(h:gr a b l m):m.Perm l:=by
 induction h with
 |refl=>exact .refl _
 |step _ _ _ _ _ _ _ bO=>exact(Uz _ _ _).trans bO
theorem gr.out{a b:Nat}{l m:List α}(h:gr a b l m)(k:Nat)(ab:k<a∨b≤k):m[k]? =l[k]?:=by
 induction h with
 |refl=>rfl
 |step _ J U ar ba b4 c9 bO=>rw[Aq _ _ _ _ b4 c9,if_neg (by omega),if_neg (by omega)];exact bO
theorem gr.all{a b:Nat}{l m:List α}(h:gr a b l m)(p:α→Prop)(bG:∀k x,a≤k→k<b→l[k]? =some x→p x):∀k x,a≤k→k<b→m[k]? =some x→p x:=by
 induction h with
 |refl=>exact bG
 |step _ J U ar ba b4 c9 bO=>
  intro k x gf kh af;rw[Aq _ _ _ _ b4 c9]at af;split at af
  ·exact bO _ _ ar ba af
  ·split at af
   ·exact bO _ _ J U af
   ·exact bO _ _ gf kh af
theorem gr.trans{a b:Nat}{l m r:List α}(h:gr a b l m)(cb:gr a b m r):gr a b l r:=by
 induction cb with
 |refl=>exact h
 |step _ J U ar ba b4 c9 bO=>exact .step bO J U ar ba b4 c9
theorem gr.mono{a b bp b5:Nat}{l m:List α}(h:gr a b l m)(bz:bp≤a)(ad:b≤b5):gr bp b5 l m:=by
 induction h with
 |refl=>exact .refl _
 |step _ J U ar ba b4 c9 bO=>exact .step bO (by omega) (by omega) (by omega) (by omega) b4 c9
def fa(lt:α→α→Bool)(a b:Nat)(l:List α):Prop:= ∀i j x y,a≤i→i<j→j<b→l[i]? =some x→l[j]? =some y→lt y x=false
structure qy (lt:α→α→Bool):Prop where
 asym:∀x y,lt x y=true→lt y x=false
 ntr:∀x y z,lt y x=false→lt z y=false→lt z x=false
theorem fa.pairwise{lt:α→α→Bool}{l:List α}(h:fa lt 0 l.length l):l.Pairwise fun x y=>lt y x=false:=by rw[o7];intro i j hi ae lF;exact h i j _ _ (by omega) lF ae (bZ hi) (bZ ae)
def hV(a m b k:Nat):Nat:=if k<a then k else if k<a+(b-m)then k+(m-a)else if k<b then k-(b-m)else k
def sf(a b c k:Nat):Nat:=if a≤k∧k<a+c then b+(k-a)else if b≤k∧k<b+c then a+(k-b)else k
end
theorem Ft(i j:Nat)(h:i+j≤1099511627776):pQ.wrap (Int.fdiv (hl.wrap ((i:Int)+j)) (2 ^ (min 1 hl.bits)))=((i+j)/2:Nat):=by
 have hw:hl.wrap ((i:Int)+j)=i+j:=by simp[ss,od,sr];omega
 have JW:hl.bits=64:=rfl;rw[hw,JW,show(2:Int) ^ (min 1 64)=2 from by decide,Int.fdiv_eq_ediv_of_nonneg _ (by omega),oe]
 ·omega
 ·omega
end Go.Pv
namespace Go.Pv
open Go
inductive bI where
 |mk (kind n:Int) (name:List dE) (args:List bI)
def bI.kind:bI→Int| .mk k _ _ _=>k
def bI.num:bI→Int| .mk _ n _ _=>n
def bI.name:bI→List dE| .mk _ _ s _=>s
def bI.args:bI→List bI| .mk _ _ _ a=>a
mutual
def enc:bI→ah
 | .mk k n s a=>.agg [.int .i64 k,.int .i64 n,.str s,.slice 4 .no (po a)]
def po:List bI→List ah
 |[]=>[]
 |x::xs=>enc x::po xs
end
theorem E6:∀l,po l=l.map enc
 |[]=>rfl
 |x::xs=>by simp[po,E6 xs]
theorem vE(t:bI):enc t= .agg [.int .i64 t.kind,.int .i64 t.num,.str t.name,.slice 4 .no (t.args.map enc)]:=by cases t;simp[enc,E6,bI.kind,bI.num,bI.name,bI.args]
mutual
theorem Uh(S:aI→Prop):∀t:bI,aB S (enc t)
 | .mk k n s a=>by simp[enc,aB,aH,KZ S a]
theorem KZ(S:aI→Prop):∀l:List bI,aH S (po l)
 |[]=>by simp[po,aH]
 |x::xs=>by simp[po,aH,Uh S x,KZ S xs]
end
mutual
theorem Xb:∀t:bI,dm (enc t)=enc t
 | .mk k n s a=>by simp[enc,dm,cR,M0 a]
theorem M0:∀l:List bI,cR (po l)=po l
 |[]=>by simp[po,cR]
 |x::xs=>by simp[po,cR,Xb x,M0 xs]
end
@[simp] theorem aqM(S:aI→Prop)(t:bI):aB S (enc t)=True:=eq_true (Uh S t)
@[simp] theorem aqx(S:aI→Prop)(l:List bI):aH S (l.map enc)=True:=by rw[←E6];exact eq_true (KZ S l)
theorem amg(l:List bI):cR (l.map enc)=l.map enc:=by rw[←E6];exact M0 l
attribute [simp] Xb amg
@[simp] theorem asX(t:bI):ec (enc t)=true:=by rw[vE];rfl
@[simp] theorem aoS(t:bI):cells (enc t)=[.int .i64 t.kind,.int .i64 t.num,.str t.name,.slice 4 .no (t.args.map enc)]:=by rw[vE];rfl
@[simp] theorem aou(t:bI):ah.agg [.int .i64 t.kind,.int .i64 t.num,.str t.name,.slice 4 .no (t.args.map enc)]=enc t:=(vE t).symm
@[simp] theorem apz(off:Nat)(e5:Bool)(sz:Nat)(t:bI):rC off e5 sz (enc t)=if e5 then some (off+sz≤4,.agg (([.int .i64 t.kind,.int .i64 t.num,.str t.name,.slice 4 .no (t.args.map enc)].drop off).take sz))else(([.int .i64 t.kind,.int .i64 t.num,.str t.name,.slice 4 .no (t.args.map enc)]:List ah)[off]?).map fun p=>(True,p):=by rw[vE];rfl
@[simp] theorem apo(off:Nat)(e5:Bool)(sz:Nat)(t:bI):p0 off e5 sz (.eptr (enc t))=if e5 then some (off+sz≤4,.eptr (.agg (([.int .i64 t.kind,.int .i64 t.num,.str t.name,.slice 4 .no (t.args.map enc)].drop off).take sz)))else(([.int .i64 t.kind,.int .i64 t.num,.str t.name,.slice 4 .no (t.args.map enc)]:List ah)[off]?).map fun p=>(ec p=true∧cells p=[p],.eptr p):=by rw[vE];rfl
@[simp] theorem aqf(t:bI):Pv.isAgg 4 (enc t):=by rw[vE];exact⟨_,rfl,rfl⟩
inductive T where
 |nil
 |var (n:Int)
 |sym (s:List dE)
 |num (n:Int)
 |pair (a b:T)
 deriving DecidableEq,Inhabited
def T.tm:T→bI
 | .nil=>.mk 0 0 [] []
 | .var n=>.mk 1 n [] []
 | .sym s=>.mk 2 0 s []
 | .num n=>.mk 3 n [] []
 | .pair a b=>.mk 4 0 [] [a.tm,b.tm]
def T.e:T→ah
 | .nil=>.agg [.int .i64 0,.int .i64 0,.str [],.slice 4 .no []]
 | .var n=>.agg [.int .i64 1,.int .i64 n,.str [],.slice 4 .no []]
 | .sym s=>.agg [.int .i64 2,.int .i64 0,.str s,.slice 4 .no []]
 | .num n=>.agg [.int .i64 3,.int .i64 n,.str [],.slice 4 .no []]
 | .pair a b=>.agg [.int .i64 4,.int .i64 0,.str [],.slice 4 .no [a.e,b.e]]
theorem jb:∀t:T,enc t.tm=t.e
 | .nil| .var _| .sym _| .num _=>rfl
 | .pair a b=>by simp[T.tm,enc,po,T.e,jb a,jb b]
def T.kind:T→Int
 | .nil=>0| .var _=>1| .sym _=>2| .num _=>3| .pair _ _=>4
def T.int:T→Int
 | .var n=>n| .num n=>n|_=>0
def T.name:T→List dE
 | .sym s=>s|_=>[]
def T.args:T→List T
 | .pair a b=>[a,b]|_=>[]
theorem T.e_eq(t:T):t.e= .agg [.int .i64 t.kind,.int .i64 t.int,.str t.name,.slice 4 .no (t.args.map T.e)]:=by cases t<;>rfl
@[simp] theorem aot(t:T):ah.agg [.int .i64 t.kind,.int .i64 t.int,.str t.name,.slice 4 .no (t.args.map T.e)]=t.e:=(T.e_eq t).symm
@[simp] theorem aov:ah.agg [.int .i64 0,.int .i64 0,.str [],.slice 4 .no []]=T.nil.e:=rfl
@[simp] theorem aoz(n:Int):ah.agg [.int .i64 1,.int .i64 n,.str [],.slice 4 .no []]=(T.var n).e:=rfl
@[simp] theorem aoy(s:List dE):ah.agg [.int .i64 2,.int .i64 0,.str s,.slice 4 .no []]=(T.sym s).e:=rfl
@[simp] theorem aow(n:Int):ah.agg [.int .i64 3,.int .i64 n,.str [],.slice 4 .no []]=(T.num n).e:=rfl
@[simp] theorem aox(a b:T):ah.agg [.int .i64 4,.int .i64 0,.str [],.slice 4 .no [a.e,b.e]]=(T.pair a b).e:=rfl
@[simp] theorem apy(off:Nat)(e5:Bool)(sz:Nat)(t:T):rC off e5 sz t.e=if e5 then some (off+sz≤4,.agg (([.int .i64 t.kind,.int .i64 t.int,.str t.name,.slice 4 .no (t.args.map T.e)].drop off).take sz))else(([.int .i64 t.kind,.int .i64 t.int,.str t.name,.slice 4 .no (t.args.map T.e)]:List ah)[off]?).map fun p=>(True,p):=by rw[T.e_eq];rfl
@[simp] theorem apn(off:Nat)(e5:Bool)(sz:Nat)(t:T):p0 off e5 sz (.eptr t.e)=if e5 then some (off+sz≤4,.eptr (.agg (([.int .i64 t.kind,.int .i64 t.int,.str t.name,.slice 4 .no (t.args.map T.e)].drop off).take sz)))else(([.int .i64 t.kind,.int .i64 t.int,.str t.name,.slice 4 .no (t.args.map T.e)]:List ah)[off]?).map fun p=>(ec p=true∧cells p=[p],.eptr p):=by rw[T.e_eq];rfl
@[simp] theorem agW:(T.nil).kind=0:=rfl
@[simp] theorem agm:(T.nil).int=0:=rfl
@[simp] theorem ahO:(T.nil).name=[]:=rfl
@[simp] theorem Y3:(T.nil).args=[]:=rfl
@[simp] theorem ag1(n:Int):(T.var n).kind=1:=rfl
@[simp] theorem agq(n:Int):(T.var n).int=n:=rfl
@[simp] theorem ahT(n:Int):(T.var n).name=[]:=rfl
@[simp] theorem Y7(n:Int):(T.var n).args=[]:=rfl
@[simp] theorem ag0(s:List dE):(T.sym s).kind=2:=rfl
@[simp] theorem agp(s:List dE):(T.sym s).int=0:=rfl
@[simp] theorem ahS(s:List dE):(T.sym s).name=s:=rfl
@[simp] theorem Y6(s:List dE):(T.sym s).args=[]:=rfl
@[simp] theorem agX(n:Int):(T.num n).kind=3:=rfl
@[simp] theorem agn(n:Int):(T.num n).int=n:=rfl
@[simp] theorem ahP(n:Int):(T.num n).name=[]:=rfl
@[simp] theorem Y4(n:Int):(T.num n).args=[]:=rfl
@[simp] theorem agY(a b:T):(T.pair a b).kind=4:=rfl
@[simp] theorem ago(a b:T):(T.pair a b).int=0:=rfl
@[simp] theorem ahQ(a b:T):(T.pair a b).name=[]:=rfl
@[simp] theorem Y5(a b:T):(T.pair a b).args=[a,b]:=rfl
@[simp] theorem aqL(S:aI→Prop)(t:T):aB S t.e=True:=by rw[←jb];simp
@[simp] theorem atp(t:T):dm t.e=t.e:=by rw[←jb];simp
theorem Ua(S:aI→Prop):∀l:List T,aH S (l.map T.e)
 |[]=>by simp[aH]
 |x::xs=>by simp[aH,Ua S xs]
@[simp] theorem T9(S:aI→Prop)(l:List T):aH S (l.map T.e)=True:=eq_true (Ua S l)
@[simp] theorem amf:∀l:List T,cR (l.map T.e)=l.map T.e
 |[]=>rfl
 |x::xs=>by simp[cR,amf xs]
@[simp] theorem asW(t:T):ec t.e=true:=by rw[T.e_eq];rfl
@[simp] theorem aoR(t:T):cells t.e=[.int .i64 t.kind,.int .i64 t.int,.str t.name,.slice 4 .no (t.args.map T.e)]:=by rw[T.e_eq];rfl
@[simp] theorem aqe(t:T):Pv.isAgg 4 t.e:=by rw[T.e_eq];exact⟨_,rfl,rfl⟩
def T.size:T→Nat
 | .pair a b=>1+a.size+b.size
 |_=>1
theorem T.size_pos(t:T):1≤t.size:=by cases t<;>simp[T.size]<;>omega
def low(b:dE):Bool:=decide (97≤b.toNat∧b.toNat≤122)
def mC(b:dE):Bool:=low b||decide (48≤b.toNat∧b.toNat≤57)||b.toNat==45
def jJ(s:List dE):Bool:=decide (1≤s.length∧s.length≤12)&&low (s.getD 0 0)&&(s.drop 1).all mC
def T.ok:T→Bool
 | .nil=>true
 | .var n=>decide (0≤n∧n≤100000)
 | .sym s=>jJ s
 | .num n=>decide (-1000000000≤n∧n≤1000000000)
 | .pair a b=>a.ok&&b.ok
def ln(k n:Int)(s:List dE):Bool:=if k=0 then n==0&&s==[]else if k=1 then decide (0≤n∧n≤100000)&&s==[]else if k=2 then n==0&&jJ s else if k=3 then decide (-1000000000≤n∧n≤1000000000)&&s==[]else false
def ft:bI→Int→Int
 | .mk k n s [a,b],room=>if room<1∨k≠4∨n≠0∨s≠[]then-1 else if ft a (room-1)<0 then-1 else if ft b (room-1-ft a (room-1))<0 then-1 else 1+ft a (room-1)+ft b (room-1-ft a (room-1))
 | .mk k n s args,room=>if room<1∨k=4∨args≠[]∨ln k n s=false then-1 else 1
theorem Lz(k n:Int)(s:List dE)(args:List bI)(room:Int):ft (.mk k n s args) room=if room<1 then-1 else if k≠4 then(if args≠[]then-1 else if ln k n s then 1 else-1)else if n≠0∨s≠[]then-1 else match args with
  |[a,b]=>if ft a (room-1)<0 then-1 else if ft b (room-1-ft a (room-1))<0 then-1 else 1+ft a (room-1)+ft b (room-1-ft a (room-1))
  |_=> -1:=by
 match args with
 |[]=>simp only[ft];by_cases J:room<1<;>by_cases U:k=4<;>by_cases ar:ln k n s=true<;>simp[J,U,ar]
 |[a]=>simp[ft]
 |[a,b]=>simp only[ft];by_cases J:room<1<;>by_cases U:k=4<;>simp[J,U]
 |a::b::c::r=>simp[ft]
theorem GD:∀(t:T) (room:Int),ft t.tm room=if t.ok=true∧(t.size:Int)≤room then(t.size:Int)else-1
 | .nil,room=>by simp[T.tm,ft,T.ok,T.size,ln];split<;>rename_i h<;>simp_all<;>omega
 | .var n,room=>by simp[T.tm,ft,T.ok,T.size,ln];split<;>split<;>simp_all<;>omega
 | .sym s,room=>by simp[T.tm,ft,T.ok,T.size,ln];by_cases J:room<1<;>by_cases U:jJ s=true<;>simp[J,U]<;>omega
 | .num n,room=>by simp[T.tm,ft,T.ok,T.size,ln];split<;>split<;>simp_all<;>omega
 | .pair a b,room=>by
  have bz:=a.size_pos;have ad:=b.size_pos;simp only[T.tm,ft,GD a,GD b,T.ok,T.size,cC];by_cases J:room<1
  ·simp[J];omega
  ·by_cases U:a.ok=true∧(a.size:Int)≤room-1
   ·rw[if_pos U];by_cases ar:b.ok=true∧(b.size:Int)≤room-1-a.size
    ·rw[if_pos ar];simp[J,U.1,ar.1];split<;>omega
    ·rw[if_neg ar];simp[J,U.1];intro lB;have:=ar;simp[lB]at this;omega
   ·rw[if_neg U];simp[J];intro lb;have:=U;simp[lb]at this;omega
theorem Dg:∀(t:bI) (room:Int),ft t room= -1∨1≤ft t room
 | .mk k n s [a,b],room=>by
  simp only[ft];split
  ·exact .inl rfl
  ·split
   ·exact .inl rfl
   ·split
    ·exact .inl rfl
    ·right;omega
 | .mk k n s [],room=>by simp only[ft];split<;>simp
 | .mk k n s [a],room=>by simp[ft]
 | .mk k n s (a::b::c::r),room=>by simp[ft]
theorem LB:∀(t:bI) (room:Int),0<ft t room→∃x:T,x.tm=t
 | .mk k n s [a,b],room,h=>by
  simp only[ft]at h;split at h
  ·omega
  ·rename_i J;simp only[not_or,Int.not_lt,ne_eq,atF]at J;obtain⟨J,rfl,rfl,rfl⟩:=J;split at h
   ·omega
   ·split at h
    ·omega
    ·obtain⟨x,rfl⟩:=LB a (room-1) (by rcases Dg a (room-1)with h|h<;>omega);obtain⟨y,rfl⟩:=LB b (room-1-ft x.tm (room-1)) (by rcases Dg b (room-1-ft x.tm (room-1))with h|h<;>omega);exact⟨.pair x y,rfl⟩
 | .mk k n s [],room,h=>by
  simp only[ft]at h;split at h
  ·omega
  ·rename_i J;simp only[not_or,ne_eq,not_true_eq_false,not_false_eq_true,true_and,Bool.not_eq_false]at J;obtain⟨_,_,J⟩:=J;unfold ln at J;split at J
   ·rename_i e;subst e;simp at J;obtain⟨rfl,rfl⟩:=J;exact⟨.nil,rfl⟩
   ·split at J
    ·rename_i e;subst e;simp at J;obtain⟨_,rfl⟩:=J;exact⟨.var n,rfl⟩
    ·split at J
     ·rename_i e;subst e;simp at J;obtain⟨rfl,_⟩:=J;exact⟨.sym s,rfl⟩
     ·split at J
      ·rename_i e;subst e;simp at J;obtain⟨_,rfl⟩:=J;exact⟨.num n,rfl⟩
      ·cases J
 | .mk k n s [a],room,h=>by simp[ft]at h
 | .mk k n s (a::b::c::r),room,h=>by simp[ft]at h
theorem LA:∀(t:bI) (room:Int),ft t room≤room∨ft t room= -1
 | .mk k n s [a,b],room=>by
  simp only[ft];split
  ·exact .inr rfl
  ·split
   ·exact .inr rfl
   ·split
    ·exact .inr rfl
    ·rcases LA b (room-1-ft a (room-1))with h|h<;>omega
 | .mk k n s [],room=>by simp only[ft];split<;>simp;rename_i h;omega
 | .mk k n s [a],room=>by simp[ft]
 | .mk k n s (a::b::c::r),room=>by simp[ft]
mutual
def bI.sz:bI→Nat
 | .mk _ _ _ a=>1+bI.szL a
def bI.szL:List bI→Nat
 |[]=>0
 |x::xs=>x.sz+bI.szL xs
end
theorem szL_mem:∀{l:List bI} {x:bI},x∈l→x.sz≤bI.szL l
 |y::l,x,h=>by
  rcases fR.1 h with rfl|h
  ·simp[bI.szL]
  ·have:=szL_mem h;simp[bI.szL];omega
theorem Nb{t x:bI}(h:x∈t.args):x.sz<t.sz:=by cases t;simp[bI.args]at h;have:=szL_mem h;simp[bI.sz];omega
def T.fit(t:T):Bool:=t.ok&&decide (t.size≤5000)
def bI.fits(t:bI):Bool:=decide (0<ft t 5000)
theorem bI.fits_T(t:T):t.tm.fits=t.fit:=by
 unfold bI.fits T.fit;rw[GD];have:=t.size_pos;by_cases J:t.ok=true<;>by_cases U:t.size≤5000
 ·rw[if_pos ⟨J,by omega⟩];simp[J,U];omega
 ·rw[if_neg (by omega)];simp[U]
 ·rw[if_neg (by simp[J])];simp[J]
 ·rw[if_neg (by simp[J])];simp[J]
theorem bI.fits_ex{t:bI}(h:t.fits=true):∃x:T,x.tm=t∧x.fit=true:=by obtain⟨x,rfl⟩:=LB t 5000 (by simpa[bI.fits]using h);exact⟨x,rfl,by rw[←bI.fits_T];exact h⟩
structure al where
 v:Int
 t:T
 deriving DecidableEq,Inhabited
def al.e(b:al):ah:= .agg [.int .i64 b.v,.int .i64 b.t.kind,.int .i64 b.t.int,.str b.t.name,.slice 4 .no (b.t.args.map T.e)]
@[simp] theorem al.eta(b:al):al.mk b.v b.t=b:=rfl
@[simp] theorem N5(v:Int)(t:T):ah.agg [.int .i64 v,.int .i64 t.kind,.int .i64 t.int,.str t.name,.slice 4 .no (t.args.map T.e)]=(al.mk v t).e:=rfl
@[simp] theorem aoo(v:Int):ah.agg [.int .i64 v,.int .i64 0,.int .i64 0,.str [],.slice 4 .no []]=(al.mk v .nil).e:=rfl
@[simp] theorem aos(v n:Int):ah.agg [.int .i64 v,.int .i64 1,.int .i64 n,.str [],.slice 4 .no []]=(al.mk v (.var n)).e:=rfl
@[simp] theorem aor(v:Int)(s:List dE):ah.agg [.int .i64 v,.int .i64 2,.int .i64 0,.str s,.slice 4 .no []]=(al.mk v (.sym s)).e:=rfl
@[simp] theorem aop(v n:Int):ah.agg [.int .i64 v,.int .i64 3,.int .i64 n,.str [],.slice 4 .no []]=(al.mk v (.num n)).e:=rfl
@[simp] theorem aoq(v:Int)(a b:T):ah.agg [.int .i64 v,.int .i64 4,.int .i64 0,.str [],.slice 4 .no [a.e,b.e]]=(al.mk v (.pair a b)).e:=rfl
@[simp] theorem aqE(S:aI→Prop)(b:al):aB S b.e=True:=by simp[al.e,-N5]
@[simp] theorem ati(b:al):dm b.e=b.e:=by simp[al.e,-N5]
theorem T6(S:aI→Prop):∀l:List al,aH S (l.map al.e)
 |[]=>by simp[aH]
 |x::xs=>by simp[aH,T6 S xs]
@[simp] theorem aqt(S:aI→Prop)(l:List al):aH S (l.map al.e)=True:=eq_true (T6 S l)
@[simp] theorem Xa:∀l:List al,cR (l.map al.e)=l.map al.e
 |[]=>rfl
 |x::xs=>by simp[cR,Xa xs]
@[simp] theorem asM(b:al):ec b.e=true:=rfl
@[simp] theorem aoJ(b:al):cells b.e=[.int .i64 b.v,.int .i64 b.t.kind,.int .i64 b.t.int,.str b.t.name,.slice 4 .no (b.t.args.map T.e)]:=rfl
@[simp] theorem aqb(b:al):Pv.isAgg 5 b.e:=⟨_,rfl,rfl⟩
@[simp] theorem apw(off:Nat)(e5:Bool)(sz:Nat)(b:al):rC off e5 sz b.e=if e5 then some (off+sz≤5,.agg (([.int .i64 b.v,.int .i64 b.t.kind,.int .i64 b.t.int,.str b.t.name,.slice 4 .no (b.t.args.map T.e)].drop off).take sz))else(([.int .i64 b.v,.int .i64 b.t.kind,.int .i64 b.t.int,.str b.t.name,.slice 4 .no (b.t.args.map T.e)]:List ah)[off]?).map fun p=>(True,p):=rfl
@[simp] theorem apl(off:Nat)(e5:Bool)(sz:Nat)(b:al):p0 off e5 sz (.eptr b.e)=if e5 then some (off+sz≤5,.eptr (.agg (([.int .i64 b.v,.int .i64 b.t.kind,.int .i64 b.t.int,.str b.t.name,.slice 4 .no (b.t.args.map T.e)].drop off).take sz)))else(([.int .i64 b.v,.int .i64 b.t.kind,.int .i64 b.t.int,.str b.t.name,.slice 4 .no (b.t.args.map T.e)]:List ah)[off]?).map fun p=>(ec p=true∧cells p=[p],.eptr p):=rfl
def T.occ(v:Int):T→Bool
 | .var n=>n==v
 | .pair a b=>a.occ v||b.occ v
 |_=>false
def ey(a b:Int):Int:=if a<b then-1 else if b<a then 1 else 0
def kL(a b:List dE):Int:=if a=b then 0 else if hv a b then-1 else 1
def dP:T→T→Int
 | .pair a b,.pair c d=>if dP a c=0 then dP b d else dP a c
 |x,y=>if x.kind≠y.kind then ey x.kind y.kind else if x.int≠y.int then ey x.int y.int else kL x.name y.name
structure cT where
 v:Int
 t:bI
def cT.e(b:cT):ah:= .agg [.int .i64 b.v,.int .i64 b.t.kind,.int .i64 b.t.num,.str b.t.name,.slice 4 .no (b.t.args.map enc)]
def al.b(b:al):cT:=⟨b.v,b.t.tm⟩
theorem al.b_e(b:al):b.b.e=b.e:=by obtain⟨v,t⟩:=b;cases t<;>simp only[al.b,cT.e,al.e,T.tm,bI.kind,bI.num,bI.name,bI.args,jb,agW,ag1,ag0,agX,agY,agm,agq,agp,agn,ago,ahO,ahT,ahS,ahP,ahQ,Y3,Y7,Y6,Y4,Y5,gO,List.map_nil]
@[simp] theorem cT.eta(b:cT):cT.mk b.v b.t=b:=rfl
@[simp] theorem N6(v:Int)(t:bI):ah.agg [.int .i64 v,.int .i64 t.kind,.int .i64 t.num,.str t.name,.slice 4 .no (t.args.map enc)]=(cT.mk v t).e:=rfl
@[simp] theorem aqG(S:aI→Prop)(b:cT):aB S b.e=True:=by simp[cT.e,-N6]
@[simp] theorem atk(b:cT):dm b.e=b.e:=by simp[cT.e,-N6]
theorem T8(S:aI→Prop):∀l:List cT,aH S (l.map cT.e)
 |[]=>by simp[aH]
 |x::xs=>by simp[aH,T8 S xs]
@[simp] theorem aqv(S:aI→Prop)(l:List cT):aH S (l.map cT.e)=True:=eq_true (T8 S l)
@[simp] theorem ame:∀l:List cT,cR (l.map cT.e)=l.map cT.e
 |[]=>rfl
 |x::xs=>by simp[cR,ame xs]
@[simp] theorem asP(b:cT):ec b.e=true:=rfl
@[simp] theorem aoM(b:cT):cells b.e=[.int .i64 b.v,.int .i64 b.t.kind,.int .i64 b.t.num,.str b.t.name,.slice 4 .no (b.t.args.map enc)]:=rfl
@[simp] theorem aqd(b:cT):Pv.isAgg 5 b.e:=⟨_,rfl,rfl⟩
@[simp] theorem apx(off:Nat)(e5:Bool)(sz:Nat)(b:cT):rC off e5 sz b.e=if e5 then some (off+sz≤5,.agg (([.int .i64 b.v,.int .i64 b.t.kind,.int .i64 b.t.num,.str b.t.name,.slice 4 .no (b.t.args.map enc)].drop off).take sz))else(([.int .i64 b.v,.int .i64 b.t.kind,.int .i64 b.t.num,.str b.t.name,.slice 4 .no (b.t.args.map enc)]:List ah)[off]?).map fun p=>(True,p):=rfl
@[simp] theorem apm(off:Nat)(e5:Bool)(sz:Nat)(b:cT):p0 off e5 sz (.eptr b.e)=if e5 then some (off+sz≤5,.eptr (.agg (([.int .i64 b.v,.int .i64 b.t.kind,.int .i64 b.t.num,.str b.t.name,.slice 4 .no (b.t.args.map enc)].drop off).take sz)))else(([.int .i64 b.v,.int .i64 b.t.kind,.int .i64 b.t.num,.str b.t.name,.slice 4 .no (b.t.args.map enc)]:List ah)[off]?).map fun p=>(ec p=true∧cells p=[p],.eptr p):=rfl
def AE(l:List cT)(i:Nat):Prop:= ∀b,l[i]? =some b→(0≤b.v∧b.v≤100000)∧(∀c,0<i→l[i-1]? =some c→c.v<b.v)∧b.t.fits=true
def vu(l:List cT):Prop:=l.length≤400∧∀i,i<l.length→AE l i
theorem q2:∀a b:T,dP a b=0↔a=b
 | .pair a b,.pair c d=>by
  simp only[dP,T.pair.injEq];split
  ·rename_i h;rw[q2 b d,←q2 a c];simp[h]
  ·rename_i h;simp[h,←q2 a c]
 | .nil,y=>by cases y<;>simp[dP,ey,kL]
 | .var n,y=>by cases y<;>simp[dP,ey,kL]<;>omega
 | .sym s,y=>by cases y<;>simp[dP,ey,kL];rename_i ai;by_cases h:s=ai<;>simp[h];by_cases U:hv s ai=true<;>simp[U]
 | .num n,y=>by cases y<;>simp[dP,ey,kL]<;>omega
 | .pair a b,.nil| .pair a b,.var _| .pair a b,.sym _| .pair a b,.num _=>by simp[dP,ey]
def T.sub(f:Int→aZ T):T→T
 | .var n=>match f n with|some x=>x|none=>.var n
 | .pair a b=>.pair (a.sub f) (b.sub f)
 |t=>t
def lp(f:Int→Int):T→Int
 | .var n=>if 5001<f n then 5001 else f n
 | .pair a b=>if 5000<lp f a then lp f a else if 5001<1+lp f a+lp f b then 5001 else 1+lp f a+lp f b
 |_=>1
theorem Hu(f:Int→Int)(aL:∀v,-1≤f v):∀t,-1≤lp f t∧lp f t≤5001
 | .var n=>by have:=aL n;simp only[lp];split<;>omega
 | .pair a b=>by have:=Hu f aL a;have:=Hu f aL b;simp only[lp];split<;>(try split)<;>omega
 | .nil| .sym _| .num _=>by simp[lp]
def df(l:List al)(v:Int):aZ T:=(l.find? fun b=>b.v==v).map (·.t)
end Go.Pv
namespace Go.Pv
open Go
structure jz {α:Type} (c:α→α→Int):Prop where
 neg:∀a b,c b a= -c a b
 tr:∀a b d,c a b≤0→c b d≤0→c a d≤0
 zero:∀a b,c a b=0↔a=b
section
variable {α:Type} {c:α→α→Int}
def hL(c:α→α→Int)(a b:α):Bool:=decide (c a b<0)
theorem jz.ltOk(h:jz c):qy (hL c):=by
 refine⟨fun x y hR=>?_,fun x y z J U=>?_⟩
 ·simp only[hL,e2,gI]at hR⊢;rw[h.neg x y];omega
 ·simp only[hL,gI]at J U⊢;have ak:=h.neg x y;have aE:=h.neg y z;have bj:=h.neg x z;have:=h.tr x y z (by omega) (by omega);omega
theorem jz.refl(h:jz c)(a:α):c a a=0:=(h.zero a a).2 rfl
theorem jz.ltr(h:jz c){a b d:α}(J:c a b<0)(U:c b d≤0):c a d<0:=by
 have ar:=h.tr a b d (by omega) U;rcases(by omega:c a d<0∨c a d=0)with ba|ba
 ·exact ba
 ·obtain rfl:=(h.zero a d).1 ba;have:=h.neg a b;omega
def oT(c:α→α→Int)(l:List α):List α:=l.mergeSort fun x y=>decide (c x y≤0)
theorem yP(c:α→α→Int)(l:List α):(oT c l).Perm l:=List.mergeSort_perm l _
theorem MY(h:jz c)(l:List α):(oT c l).Pairwise fun x y=>c x y≤0:=by have:=List.pairwise_mergeSort (le:=fun x y=>decide (c x y≤0)) (fun a b d J U=>by simp at J U⊢;exact h.tr a b d J U) (fun a b=>by simp;have:=h.neg a b;omega) l;exact this.imp (by simp)
theorem W7(h:jz c){l a1:List α}(bG:a1.Perm l)(ag:a1.Pairwise fun x y=>hL c y x=false):a1=oT c l:=by refine NQ (le:=fun x y=>c x y≤0) (fun x y _ _ J U=>(h.zero x y).1 (by have:=h.neg x y;omega)) (ag.imp fun{x y} hR=>?_) (MY h l) (bG.trans (yP c l).symm);simp only[hL,gI]at hR;have:=h.neg x y;omega
def cG[DecidableEq α](p:aZ α):List α→List α
 |[]=>[]
 |x::r=>if p=some x then cG (some x) r else x::cG (some x) r
def asc[DecidableEq α](c:α→α→Int)(l:List α):List α:=cG none (oT c l)
def hN(c:α→α→Int)(l:List α):Prop:=l.Pairwise fun x y=>c x y<0
variable [DecidableEq α]
theorem I0:∀(l:List α) (p:aZ α) (x:α),x∈cG p l→x∈l
 |[],_,_,h=>by simp[cG]at h
 |y::r,p,x,h=>by
  simp only[cG]at h;split at h
  ·exact pS _ (I0 r _ x h)
  ·rcases fR.1 h with rfl|h
   ·simp
   ·exact pS _ (I0 r _ x h)
theorem Lm:∀(l:List α) (p:aZ α) (x:α),x∈l→x∈cG p l∨p=some x
 |y::r,p,x,h=>by
  simp only[cG];rcases fR.1 h with rfl|h
  ·split
   ·rename_i U;exact .inr U
   ·simp
  ·split
   ·rename_i U;rcases Lm r (some y) x h with ar|ar
    ·exact .inl ar
    ·cases ar;exact .inr U
   ·rcases Lm r (some y) x h with ar|ar
    ·exact .inl (pS _ ar)
    ·cases ar;simp
theorem Q6(au:jz c):∀(l:List α) (p:aZ α),l.Pairwise (fun x y=>c x y≤0)→(∀y,p=some y→∀x∈l,c y x≤0)→hN c (cG p l)∧∀y,p=some y→∀x∈cG p l,c y x<0
 |[],p,_,_=>⟨atM,fun y _ x af=>by simp[cG]at af⟩
 |z::r,p,h,bG=>by
  obtain⟨J,U⟩:=mR.1 h;have bO:=Q6 au r (some z) U (fun y aM x af=>by cases aM;exact J x af);simp only[cG];split
  ·rename_i ar;subst ar;exact bO
  ·rename_i ar;refine⟨mR.2 ⟨fun x af=>bO.2 z rfl x af,bO.1⟩,fun y aM x af=>?_⟩;subst aM;have rV:c y z<0:=by
    have ba:=bG y rfl z (by simp);rcases(by omega:c y z<0∨c y z=0)with b4|b4
    ·exact b4
    ·exact absurd (eB some ((au.zero y z).1 b4)) ar
   rcases fR.1 af with rfl|af
   ·exact rV
   ·exact au.ltr rV (by have:=bO.2 z rfl x af;omega)
theorem Ik(au:jz c)(l:List α):hN c (asc c l):=(Q6 au _ none (MY au l) (fun y h=>by cases h)).1
theorem UI(l:List α)(x:α):x∈asc c l↔x∈l:=by
 constructor
 ·intro h;exact(yP c l).mem_iff.1 (I0 _ _ _ h)
 ·intro h;rcases Lm (oT c l) none x ((yP c l).mem_iff.2 h)with h|h
  ·exact h
  ·cases h
omit [DecidableEq α]in
theorem hN.ext(au:jz c){l a1:List α}(h:hN c l)(cb:hN c a1)(hm:∀x,x∈l↔x∈a1):l=a1:=by
 have aQ:∀{l:List α},hN c l→l.Nodup:=fun{l} h=>h.imp fun{a b} h e=>by subst e;have:=au.refl a;omega
 refine NQ (le:=fun x y=>c x y≤0) (fun x y _ _ J U=>(au.zero x y).1 (by have:=au.neg x y;omega)) (h.imp fun h=>by omega) (cb.imp fun h=>by omega) ?_;exact(List.perm_ext_iff_of_nodup (aQ h) (aQ cb)).2 hm
omit [DecidableEq α]in
theorem hN.nodup(au:jz c){l:List α}(h:hN c l):l.Nodup:=h.imp fun{a b} h e=>by subst e;have:=au.refl a;omega
end
theorem Is:∀a b:List dE,hv a b=true→hv b a=false
 |_,[],h=>by simp[hv]at h
 |[],_::_,_=>by simp[hv]
 |x::a,y::b,h=>by
  simp only[hv,lX,e2,cC,dQ]at h;simp only[hv,Bool.or_eq_false_iff,gI,Bool.and_eq_false_iff];rcases h with h|⟨rfl,h⟩
  ·refine⟨fun U=>?_,.inl ?_⟩
   ·rw[UInt8.lt_iff_toNat_lt]at h U;omega
   ·simp;intro e;subst e;rw[UInt8.lt_iff_toNat_lt]at h;omega
  ·exact⟨fun U=>by rw[UInt8.lt_iff_toNat_lt]at U;omega,.inr (Is a b h)⟩
theorem Ov:∀a b:List dE,a≠b→hv a b=false→hv b a=true
 |[],[],h,_=>absurd rfl h
 |x::a,[],_,_=>by simp[hv]
 |[],_::_,_,h=>by simp[hv]at h
 |x::a,y::b,cF,h=>by
  simp only[hv,Bool.or_eq_false_iff,gI,Bool.and_eq_false_iff]at h;simp only[hv,lX,e2,cC,dQ];by_cases e:x=y
  ·subst e;right;refine⟨rfl,Ov a b (fun e=>cF (by rw[e])) ?_⟩;rcases h.2 with U|U
   ·simp at U
   ·exact U
  ·left;have J:=h.1;rw[UInt8.lt_iff_toNat_lt]at J⊢;have:x.toNat≠y.toNat:=fun h=>e (UInt8.toNat_inj.1 h);omega
theorem Ou:∀a b d:List dE,hv a b=true→hv b d=true→hv a d=true
 |_,[],_,h,_=>by simp[hv]at h
 |_,_::_,[],_,h=>by simp[hv]at h
 |[],_::_,_::_,_,_=>by simp[hv]
 |x::a,y::b,z::d,J,U=>by
  simp only[hv,lX,e2,cC,dQ,UInt8.lt_iff_toNat_lt]at J U⊢;rcases J with J|⟨rfl,J⟩<;>rcases U with U|⟨rfl,U⟩
  ·left;omega
  ·left;exact J
  ·left;exact U
  ·exact .inr ⟨rfl,Ou a b d J U⟩
theorem km:jz ey:=by
 refine⟨fun a b=>?_,fun a b d=>?_,fun a b=>?_⟩
 ·simp only[ey];repeat' split
  all_goals omega
 ·simp only[ey];repeat' split
  all_goals omega
 ·simp only[ey];repeat' split
  all_goals omega
theorem Du:jz kL:=by
 have ay:∀a b,kL b a= -kL a b:=fun a b=>by
  simp only[kL];by_cases e:a=b
  ·subst e;simp
  ·rw[if_neg e,if_neg (k6 e)];cases h:hv a b with
   |true=>simp[Is a b h]
   |false=>simp[Ov a b e h]
 refine⟨ay,fun a b d J U=>?_,fun a b=>?_⟩
 ·simp only[kL]at J U⊢;by_cases ak:a=b
  ·subst ak;exact U
  ·by_cases aE:b=d
   ·subst aE;exact J
   ·rw[if_neg ak]at J;rw[if_neg aE]at U;have g1:hv a b=true:=by cases h:hv a b<;>simp[h]at J⊢
    have g2:hv b d=true:=by cases h:hv b d<;>simp[h]at U⊢
    rw[Ou a b d g1 g2];split<;>simp
 ·simp only[kL];by_cases e:a=b
  ·simp[e]
  ·rw[if_neg e];simp[e];split<;>omega
theorem r7{a b:T}(h:a.kind≠b.kind):dP a b=ey a.kind b.kind:=by cases a<;>cases b<;>simp at h<;>simp[dP]
theorem GL:∀a b:T,dP b a= -dP a b
 | .pair a b,.pair c d=>by
  simp only[dP];have J:=GL a c;have U:=GL b d;by_cases e:dP a c=0
  ·rw[if_pos e,if_pos (by omega),U]
  ·rw[if_neg e,if_neg (by omega),J]
 | .nil,y=>by
  by_cases ab:T.nil.kind=y.kind
  ·cases y<;>simp at ab;simp[dP,kL]
  ·rw[r7 ab,r7 (k6 ab),km.neg]
 | .var n,y=>by
  by_cases ab:(T.var n).kind=y.kind
  ·cases y<;>simp at ab;rename_i m;by_cases e:n=m
   ·subst e;simp[dP,kL]
   ·simp[dP,e,k6 e,km.neg n m]
  ·rw[r7 ab,r7 (k6 ab),km.neg]
 | .sym s,y=>by
  by_cases ab:(T.sym s).kind=y.kind
  ·cases y<;>simp at ab;rename_i m;simp[dP,Du.neg s m]
  ·rw[r7 ab,r7 (k6 ab),km.neg]
 | .num n,y=>by
  by_cases ab:(T.num n).kind=y.kind
  ·cases y<;>simp at ab;rename_i m;by_cases e:n=m
   ·subst e;simp[dP,kL]
   ·simp[dP,e,k6 e,km.neg n m]
  ·rw[r7 ab,r7 (k6 ab),km.neg]
 | .pair a b,.nil| .pair a b,.var _| .pair a b,.sym _| .pair a b,.num _=>by simp[dP,ey]
theorem GK{a b:T}(h:dP a b≤0):a.kind≤b.kind:=by
 by_cases ab:a.kind=b.kind
 ·omega
 ·rw[r7 ab]at h;simp only[ey]at h;repeat' split at h
  all_goals omega
theorem Vr(n m:Int):dP (.var n) (.var m)=ey n m:=by
 simp only[dP,T.kind,T.int,T.name,kL];by_cases e:n=m
 ·subst e;simp[ey]
 ·simp[e]
theorem Vq(n m:Int):dP (.num n) (.num m)=ey n m:=by
 simp only[dP,T.kind,T.int,T.name,kL];by_cases e:n=m
 ·subst e;simp[ey]
 ·simp[e]
theorem aj4(n m:List dE):dP (.sym n) (.sym m)=kL n m:=by simp[dP]
theorem GM(a b d:T)(bz:a.kind≠4)(J:dP a b≤0)(U:dP b d≤0):dP a d≤0:=by
 have aU:=GK J;have bC:=GK U;by_cases ab:a.kind=d.kind
 ·cases a<;>cases d<;>simp at ab bz;all_goals(cases b<;>simp at aU bC)
  ·simp[dP,kL]
  ·rw[Vr]at J U⊢;exact km.tr _ _ _ J U
  ·rw[aj4]at J U⊢;exact Du.tr _ _ _ J U
  ·rw[Vq]at J U⊢;exact km.tr _ _ _ J U
 ·rw[r7 ab];simp only[ey];repeat' split
  all_goals omega
theorem aj5:∀a b d:T,dP a b≤0→dP b d≤0→dP a d≤0:=by
 intro a;induction a with
 |pair bD a2 F0 F1=>
  intro b d J U;have aU:=GK J;have bC:=GK U;cases b<;>simp at aU;all_goals(cases d<;>simp at bC)
  rename_i cl b8 d1 d2;simp only[dP]at J U⊢;by_cases ak:dP bD cl=0
  ·obtain rfl:=(q2 bD cl).1 ak;rw[if_pos ak]at J;by_cases aE:dP bD d1=0
   ·rw[if_pos aE]at U⊢;exact F1 b8 d2 J U
   ·rw[if_neg aE]at U⊢;exact U
  ·rw[if_neg ak]at J;by_cases aE:dP cl d1=0
   ·obtain rfl:=(q2 cl d1).1 aE;rw[if_neg ak];exact J
   ·rw[if_neg aE]at U;have ar:=F0 cl d1 J U;by_cases bj:dP bD d1=0
    ·obtain rfl:=(q2 bD d1).1 bj;have:=GL bD cl;omega
    ·rw[if_neg bj];exact ar
 |nil=>exact fun b d=>GM _ b d (by simp)
 |var n=>exact fun b d=>GM _ b d (by simp)
 |sym n=>exact fun b d=>GM _ b d (by simp)
 |num n=>exact fun b d=>GM _ b d (by simp)
theorem LY:jz dP:=⟨GL,aj5,q2⟩
end Go.Pv
namespace Go.Pv
open Go
section
variable {α:Type} {c:α→α→Int}
def j0(c:α→α→Int):List α→List α→Int
 |[],[]=>0
 |[],_::_=> -1
 |_::_,[]=>1
 |x::xs,y::ys=>if c x y=0 then j0 c xs ys else c x y
theorem Us(h:jz c):∀a b:List α,j0 c b a= -j0 c a b
 |[],[]=>rfl
 |[],_::_=>rfl
 |_::_,[]=>rfl
 |x::xs,y::ys=>by
  simp only[j0];have J:=h.neg x y;by_cases e:c x y=0
  ·rw[if_pos e,if_pos (by omega),Us h xs ys]
  ·rw[if_neg e,if_neg (by omega),J]
theorem Uu(h:jz c):∀a b:List α,j0 c a b=0↔a=b
 |[],[]=>by simp[j0]
 |[],_::_=>by simp[j0]
 |_::_,[]=>by simp[j0]
 |x::xs,y::ys=>by
  simp only[j0,qs];by_cases e:c x y=0
  ·rw[if_pos e,Uu h xs ys];simp[(h.zero x y).1 e]
  ·rw[if_neg e];exact⟨fun cb=>absurd cb e,fun cb=>absurd ((h.zero x y).2 cb.1) e⟩
theorem Ut(h:jz c):∀a b d:List α,j0 c a b≤0→j0 c b d≤0→j0 c a d≤0
 |[],_,[],_,_=>by simp[j0]
 |[],_,_::_,_,_=>by simp[j0]
 |_::_,[],_,J,_=>by simp[j0]at J
 |_::_,_::_,[],_,U=>by simp[j0]at U
 |x::xs,y::ys,z::cW,J,U=>by
  simp only[j0]at J U⊢;by_cases ak:c x y=0
  ·have:=(h.zero x y).1 ak;subst this;rw[if_pos ak]at J;by_cases aE:c x z=0
   ·rw[if_pos aE]at U⊢;exact Ut h xs ys cW J U
   ·rw[if_neg aE]at U⊢;exact U
  ·rw[if_neg ak]at J;have bE:c x y<0:=by omega
   by_cases aE:c y z=0
   ·have:=(h.zero y z).1 aE;subst this;rw[if_neg ak];omega
   ·rw[if_neg aE]at U;have:=h.ltr bE U;rw[if_neg (by omega)];omega
theorem ag9(h:jz c):jz (j0 c):=⟨Us h,Ut h,Uu h⟩
end
def yy(x y:al):Int:=if ey x.v y.v=0 then dP x.t y.t else ey x.v y.v
theorem aj2:jz yy:=by
 refine⟨fun x y=>?_,fun x y z J U=>?_,fun x y=>?_⟩
 ·unfold yy;have:=km.neg x.v y.v;have:=LY.neg x.t y.t;by_cases e:ey x.v y.v=0
  ·rw[if_pos e,if_pos (by omega)];omega
  ·rw[if_neg e,if_neg (by omega)];omega
 ·unfold yy at J U⊢;by_cases ak:ey x.v y.v=0
  ·rw[if_pos ak]at J;rw[(km.zero _ _).1 ak];by_cases aE:ey y.v z.v=0
   ·rw[if_pos aE]at U⊢;exact LY.tr _ _ _ J U
   ·rw[if_neg aE]at U⊢;exact U
  ·rw[if_neg ak]at J;have bE:ey x.v y.v<0:=by omega
   by_cases aE:ey y.v z.v=0
   ·rw[←(km.zero _ _).1 aE,if_neg ak];exact J
   ·rw[if_neg aE]at U;have:=km.ltr bE U;rw[if_neg (by omega)];omega
 ·unfold yy;by_cases e:ey x.v y.v=0
  ·rw[if_pos e,LY.zero];have:=(km.zero _ _).1 e;cases x;cases y;simp_all
  ·rw[if_neg e];exact⟨fun h=>absurd h e,fun h=>by rw[h]at e;exact absurd (km.refl _) e⟩
def ev:List al→List al→Int:=j0 yy
theorem lQ:jz ev:=ag9 aj2
end Go.Pv
namespace Go.Pv
open Go
def T.ap(aP:Int→T):T→T
 | .var n=>aP n
 | .pair a b=>.pair (a.ap aP) (b.ap aP)
 |t=>t
theorem BA(f g:Int→T)(t:T):(t.ap f).ap g=t.ap fun v=>(f v).ap g:=by
 induction t with
 |pair a b dX dY=>simp[T.ap,dX,dY]
 |_=>simp[T.ap]
theorem tW{f g:Int→T}{t:T}(h:∀v,t.occ v=true→f v=g v):t.ap f=t.ap g:=by
 induction t with
 |var n=>exact h n (by simp[T.occ])
 |pair a b dX dY=>simp only[T.ap];rw[dX fun v aF=>h v (by simp[T.occ,aF]),dY fun v aF=>h v (by simp[T.occ,aF])]
 |_=>rfl
theorem Y1(t:T):t.ap .var=t:=by induction t<;>simp_all[T.ap]
theorem Ob{f:Int→T}{t:T}(h:∀v,t.occ v=true→f v= .var v):t.ap f=t:=(tW h).trans (Y1 t)
theorem Xd(f:Int→aZ T)(t:T):t.sub f=t.ap fun v=>(f v).getD (.var v):=by
 induction t with
 |var n=>simp only[T.sub,T.ap];cases f n<;>rfl
 |pair a b dX dY=>simp[T.sub,T.ap,dX,dY]
 |_=>rfl
theorem Y0(aP:Int→T)(t:T):t.size≤(t.ap aP).size:=by
 induction t with
 |var n=>exact T.size_pos _
 |pair a b dX dY=>simp only[T.ap,T.size];omega
 |_=>exact eR _
theorem AD(aP:Int→T){v:Int}{t:T}(h:t.occ v=true):(aP v).size≤(t.ap aP).size∧(t.kind≠1→(aP v).size<(t.ap aP).size):=by
 induction t with
 |var n=>simp[T.occ]at h;subst h;simp[T.ap,T.kind]
 |pair a b dX dY=>
  simp only[T.occ,lX]at h;simp only[T.ap,T.size];rcases h with h|h
  ·have:=(dX h).1;exact⟨by omega,fun _=>by omega⟩
  ·have:=(dY h).1;exact⟨by omega,fun _=>by omega⟩
 |_=>simp[T.occ]at h
theorem Dj{aP:Int→T}{v:Int}{t:T}:(t.ap aP).occ v=true↔∃w,t.occ w=true∧(aP w).occ v=true:=by
 induction t with
 |var n=>simp[T.ap,T.occ]
 |pair a b dX dY=>
  simp only[T.ap,T.occ,lX,dX,dY];constructor
  ·rintro(⟨w,J,U⟩|⟨w,J,U⟩)
   ·exact⟨w,.inl J,U⟩
   ·exact⟨w,.inr J,U⟩
  ·rintro⟨w,J|J,U⟩
   ·exact .inl ⟨w,J,U⟩
   ·exact .inr ⟨w,J,U⟩
 |_=>simp[T.ap,T.occ]
def bV(s:List al)(v:Int):T:=(df s v).getD (.var v)
abbrev hH(s:List al):Prop:=s.Pairwise fun x y=>x.v<y.v
def gQ(s:List al)(aP:Int→T):Prop:= ∀b∈s,aP b.v=b.t.ap aP
structure fF (s:List al):Prop where
 asc:hH s
 free:∀b∈s,∀w,b.t.occ w=true→df s w=none
 ori:∀b∈s,∀w,b.t= .var w→w<b.v
theorem tZ(b:al)(s:List al)(v:Int):df (b::s) v=if b.v=v then some b.t else df s v:=by
 unfold df;by_cases h:b.v=v
 ·simp[h]
 ·have:(b.v==v)=false:=by simp[h]
  simp[this,h,List.find?_cons]
theorem jU{v:Int}{t:T}:∀{s:List al},df s v=some t→(⟨v,t⟩:al)∈s
 |[],h=>by simp[df]at h
 |b::s,h=>by
  rw[tZ]at h;split at h
  ·rename_i e;cases h;subst e;simp
  ·exact pS _ (jU h)
theorem vv{v:Int}:∀{s:List al},df s v=none↔∀b∈s,b.v≠v
 |[]=>by simp[df]
 |b::s=>by
  rw[tZ];by_cases h:b.v=v
  ·simp[h]
  ·simp[h,vv (s:=s)]
theorem tY{b:al}:∀{s:List al},hH s→b∈s→df s b.v=some b.t
 |[],_,h=>by simp at h
 |c::s,bz,h=>by
  rw[tZ];have nf:=mR.1 bz;rcases fR.1 h with rfl|h
  ·simp
  ·have:=nf.1 b h;rw[if_neg (by omega)];exact tY nf.2 h
theorem Od:∀{s ai:List al},hH s→hH ai→(∀v,df s v=df ai v)→s=ai
 |[],[],_,_,_=>rfl
 |[],c::ai,_,_,h=>by have:=h c.v;rw[tZ]at this;simp[df]at this
 |c::s,[],_,_,h=>by have:=h c.v;rw[tZ]at this;simp[df]at this
 |b::s,c::ai,bz,ad,h=>by
  have fV:=mR.1 ad;have nf:=mR.1 bz;have J:(⟨b.v,b.t⟩:al)∈c::ai:=jU (by rw[←h b.v,tZ];simp);have U:(⟨c.v,c.t⟩:al)∈b::s:=jU (by rw[h c.v,tZ];simp);have Sr:b=c:=by
   rcases fR.1 J with e|e
   ·exact e
   ·rcases fR.1 U with aE|aE
    ·exact aE.symm
    ·have a8:=fV.1 _ e;have bF:=nf.1 _ aE;simp only at a8 bF;omega
  subst Sr;rw[Od nf.2 fV.2 fun v=>?_];have:=h v;rw[tZ,tZ]at this;by_cases e:b.v=v
  ·have k4:df s v=none:=vv.2 fun x af=>by have:=nf.1 x af;omega
   have z2:df ai v=none:=vv.2 fun x af=>by have:=fV.1 x af;omega
   rw[k4,z2]
  ·simpa[e]using this
theorem al3{s:List al}(bz:hH s){aP:Int→T}:gQ s aP↔∀v,aP v=(bV s v).ap aP:=by
 constructor
 ·intro h v;unfold bV;cases e:df s v with
  |none=>rfl
  |some t=>exact h _ (jU e)
 ·intro h b ad;have:=h b.v;rw[bV,tY bz ad]at this;exact this
theorem MW{s:List al}{aP:Int→T}(h:gQ s aP)(t:T):t.ap aP=(t.ap (bV s)).ap aP:=by
 rw[BA];refine tW fun v _=>?_;unfold bV;cases e:df s v with
 |none=>rfl
 |some t=>exact h _ (jU e)
theorem alK{s:List al}(ag:fF s){t:T}(h:∀w,t.occ w=true→df s w=none):t.ap (bV s)=t:=Ob fun v aF=>by simp[bV,h v aF]
theorem yO{s:List al}(ag:fF s):gQ s (bV s):=fun b ad=>by rw[alK ag (ag.free b ad),bV,tY ag.asc ad];rfl
theorem Lv{s ai:List al}(ag:fF s)(fi:fF ai)(h:∀aP,gQ ai aP→gQ s aP){v:Int}(aF:df ai v=none):df s v=none:=by
 cases e:df s v with
 |none=>rfl
 |some t=>
  have J:=h _ (yO fi) _ (jU e);simp only[bV,aF,nI]at J;cases t with
  |var w=>
   have U:w<v:=ag.ori _ (jU e) w rfl;simp only[T.ap,bV]at J;cases bj:df ai w with
   |none=>rw[bj]at J;simp at J;omega
   |some u=>rw[bj]at J;simp only[ka]at J;subst J;have:=fi.ori _ (jU bj) v rfl;simp only at this;omega
  |_=>simp[T.ap]at J
theorem ahN{s ai:List al}(fi:fF ai)(h:∀aP,gQ ai aP→gQ s aP){v:Int}:(bV s v).size≤(bV ai v).size:=by
 have J:=h _ (yO fi);unfold bV;cases e:df s v with
 |none=>exact T.size_pos _
 |some t=>have:=J _ (jU e);show t.size≤(bV ai v).size;simp only at this;rw[this];exact Y0 _ _
theorem al6{s ai:List al}(ag:fF s)(fi:fF ai)(h:∀aP,gQ s aP↔gQ ai aP):s=ai:=by
 refine Od ag.asc fi.asc fun v=>?_;have d1:∀w,df s w=none↔df ai w=none:=fun w=>⟨Lv fi ag (fun aP=>(h aP).1),Lv ag fi fun aP=>(h aP).2⟩;cases e:df s v with
 |none=>exact((d1 v).1 e).symm
 |some t=>
  cases fy:df ai v with
  |none=>rw[(d1 v).2 fy]at e;cases e
  |some dO=>have J:=(h _).2 (yO fi) _ (jU e);simp only[bV,fy,ka]at J;rw[J];exact eB some (Ob fun w hw=>by have:=(d1 w).1 (ag.free _ (jU e) w hw);simp[bV,this]).symm
def gp(s:List al):Prop:=s.length≤400∧∀b∈s,b.t.size≤5000
theorem Za{s:List al}(h:hH s):(s.map (·.v)).Nodup:=by rw[List.nodup_iff_pairwise_ne,List.pairwise_map];exact h.imp fun h=>by omega
theorem RG{s ai:List al}(ag:fF s)(fi:fF ai)(h:∀aP,gQ ai aP→gQ s aP)(aL:gp ai):gp s:=by
 have aQ:∀x∈s.map (·.v),x∈ai.map (·.v):=by
  intro x af;obtain⟨b,ad,rfl⟩:=h5.1 af;cases e:df ai b.v with
  |none=>have:=Lv ag fi h e;rw[tY ag.asc ad]at this;cases this
  |some t=>exact h5.2 ⟨_,jU e,rfl⟩
 have aw:=NP (Za ag.asc) aQ;simp only[rj]at aw;refine⟨jT aw aL.1,fun b ad=>?_⟩;have J:=ahN (s:=s) fi h (v:=b.v);rw[bV,tY ag.asc ad]at J;obtain⟨c,au,e⟩:=h5.1 (aQ b.v (h5.2 ⟨b,ad,rfl⟩));have U:=aL.2 c au;rw[bV,←e,tY fi.asc au]at J;exact jT J U
def jC(E:List (T×T))(aP:Int→T):Prop:= ∀e∈E,e.1.ap aP=e.2.ap aP
theorem DW(aP:Int→T):jC [] aP:=fun _ h=>by simp at h
theorem q5{e:T×T}{E:List (T×T)}{aP:Int→T}:jC (e::E) aP↔e.1.ap aP=e.2.ap aP∧jC E aP:=by simp[jC]
theorem DV{E xc:List (T×T)}{aP:Int→T}:jC (E++xc) aP↔jC E aP∧jC xc aP:=by simp only[jC,kQ];exact⟨fun h=>⟨fun e he=>h e (.inl he),fun e he=>h e (.inr he)⟩,fun h e he=>he.elim (h.1 e) (h.2 e)⟩
def iF(s:List al)(E:List (T×T)):aZ (List al)→Prop
 |some ai=>(fF ai∧gp ai)∧∀aP,gQ ai aP↔gQ s aP∧jC E aP
 |none=> ∀ai,fF ai→(∀aP,gQ ai aP→gQ s aP∧jC E aP)→¬gp ai
theorem YR{s:List al}{E:List (T×T)}:∀{o o':aZ (List al)},iF s E o→iF s E o'→o=o'
 |none,none,_,_=>rfl
 |some s1,none,h,cb=>absurd h.1.2 (cb s1 h.1.1 fun aP=>(h.2 aP).1)
 |none,some s1,cb,h=>absurd h.1.2 (cb s1 h.1.1 fun aP=>(h.2 aP).1)
 |some s1,some s2,h,cb=>by rw[al6 h.1.1 cb.1.1 fun aP=>(h.2 aP).trans (cb.2 aP).symm]
theorem By{s s2:List al}{E NS:List (T×T)}(h:∀aP,(gQ s aP∧jC E aP)↔(gQ s2 aP∧jC NS aP)):∀{o:aZ (List al)},iF s E o→iF s2 NS o
 |none,aJ=>fun ai J U=>aJ ai J fun aP hr=>(h aP).2 (U aP hr)
 |some s1,aJ=>⟨aJ.1,fun aP=>(aJ.2 aP).trans (h aP)⟩
theorem N0{s s1:List al}{E xc:List (T×T)}(h:iF s E (some s1)):∀{o:aZ (List al)},iF s1 xc o→iF s (E++xc) o
 |none,aJ=>fun ai J U=>aJ ai J fun aP hr=>⟨(h.2 aP).2 ⟨(U aP hr).1,(DV.1 (U aP hr).2).1⟩,(DV.1 (U aP hr).2).2⟩
 |some s2,aJ=>⟨aJ.1,fun aP=>by rw[aJ.2 aP,h.2 aP,DV,and_assoc]⟩
theorem Ia{s:List al}{E:List (T×T)}(xc:List (T×T))(h:iF s E none):iF s (E++xc) none:=fun ai J U=>h ai J fun aP hr=>⟨(U aP hr).1,(DV.1 (U aP hr).2).1⟩
theorem Eu{s:List al}{E:List (T×T)}(h:∀aP,gQ s aP→¬jC E aP):iF s E none:=fun ai J U=>absurd (U _ (yO J)).2 (h _ (U _ (yO J)).1)
theorem Ib{s:List al}(ag:fF s)(aL:gp s):iF s [] (some s):=⟨⟨ag,aL⟩,fun aP=>⟨fun h=>⟨h,DW aP⟩,fun h=>h.1⟩⟩
def one(v:Int)(x:T)(w:Int):T:=if w=v then x else .var w
def oK(b:al):List al→List al
 |[]=>[b]
 |c::s=>if b.v<c.v then b::c::s else c::oK b s
def mr(s:List al)(v:Int)(x:T):List al:=oK ⟨v,x⟩ (s.map fun b=>⟨b.v,b.t.ap (one v x)⟩)
theorem Ln{b x:al}:∀{s:List al},x∈oK b s↔x=b∨x∈s
 |[]=>by simp[oK]
 |c::s=>by
  simp only[oK];split
  ·simp
  ·simp only[fR,Ln (s:=s)];constructor
   ·rintro(h|h|h)
    ·exact .inr (.inl h)
    ·exact .inl h
    ·exact .inr (.inr h)
   ·rintro(h|h|h)
    ·exact .inr (.inl h)
    ·exact .inl h
    ·exact .inr (.inr h)
theorem Ur{b:al}:∀{s:List al},(oK b s).length=s.length+1
 |[]=>rfl
 |c::s=>by simp only[oK];split<;>simp[Ur]
theorem Oe{b:al}:∀{s:List al},hH s→(∀c∈s,c.v≠b.v)→hH (oK b s)
 |[],_,_=>by simp[oK]
 |c::s,bz,ay=>by
  have nf:=mR.1 bz;simp only[oK];split
  ·rename_i bE;refine mR.2 ⟨fun x af=>?_,bz⟩;rcases fR.1 af with rfl|af
   ·exact bE
   ·have:=nf.1 x af;omega
  ·rename_i uz;refine mR.2 ⟨fun x af=>?_,Oe nf.2 fun c au=>ay c (by simp[au])⟩;rcases Ln.1 af with rfl|af
   ·have:=ay c (by simp);omega
   ·exact nf.1 x af
theorem qg{s:List al}{v:Int}{x:T}{b:al}:b∈mr s v x↔b=⟨v,x⟩∨ ∃c∈s,b=⟨c.v,c.t.ap (one v x)⟩:=by unfold mr;rw[Ln,h5];refine or_congr Iff.rfl ⟨fun⟨c,J,U⟩=>⟨c,J,U.symm⟩,fun⟨c,J,U⟩=>⟨c,J,U.symm⟩⟩
theorem Vm{v:Int}{x:T}{aP:Int→T}(h:aP v=x.ap aP)(t:T):(t.ap (one v x)).ap aP=t.ap aP:=by
 rw[BA];refine tW fun w _=>?_;unfold one;split
 ·rename_i e;subst e;exact h.symm
 ·rfl
theorem Ey{s:List al}{v w:Int}{x:T}:df (mr s v x) w=none↔w≠v∧df s w=none:=by
 rw[vv,vv];constructor
 ·intro h;exact⟨fun e=>h ⟨v,x⟩ (qg.2 (.inl rfl)) e.symm,fun b ad=>h ⟨b.v,b.t.ap (one v x)⟩ (qg.2 (.inr ⟨b,ad,rfl⟩))⟩
 ·rintro⟨J,U⟩ b ad;rcases qg.1 ad with rfl|⟨c,au,rfl⟩
  ·exact fun e=>J e.symm
  ·exact U c au
theorem MU{s:List al}(ag:fF s){t:T}{w:Int}(h:(t.ap (bV s)).occ w=true):df s w=none:=by
 obtain⟨u,_,U⟩:=Dj.1 h;unfold bV at U;cases e:df s u with
 |none=>rw[e]at U;simp[T.occ]at U;subst U;exact e
 |some t=>rw[e]at U;exact ag.free _ (jU e) w U
theorem al5{s:List al}(ag:fF s){v:Int}{t:T}(aF:df s v=none)(ax:(t.ap (bV s)).occ v=false)(sZ:∀w,t.ap (bV s)= .var w→w<v):fF (mr s v (t.ap (bV s))):=by
 have af:∀w,(t.ap (bV s)).occ w=true→df (mr s v (t.ap (bV s))) w=none:=fun w hw=>Ey.2 ⟨fun e=>(by subst e;rw[ax]at hw;cases hw),MU ag hw⟩;refine⟨Oe ?_ ?_,fun b ad w hw=>?_,fun b ad w hw=>?_⟩
 ·rw[hH,List.pairwise_map];exact ag.asc
 ·intro c au;obtain⟨b,ad,rfl⟩:=h5.1 au;exact vv.1 aF b ad
 ·rcases qg.1 ad with rfl|⟨c,au,rfl⟩
  ·exact af w hw
  ·obtain⟨u,J,U⟩:=Dj.1 hw;unfold one at U;split at U
   ·exact af w U
   ·rename_i cF;simp[T.occ]at U;subst U;exact Ey.2 ⟨cF,ag.free c au _ J⟩
 ·rcases qg.1 ad with rfl|⟨c,au,rfl⟩
  ·exact sZ w hw
  ·simp only at hw⊢;cases e:c.t with
   |var u=>
    have:=ag.ori c au u e;rw[e]at hw;simp only[T.ap,one]at hw;split at hw
    ·rename_i aE;subst aE;have:=sZ w hw;omega
    ·cases hw;exact this
   |_=>rw[e]at hw;simp[T.ap]at hw
theorem W2{s:List al}{v:Int}{t:T}(aP:Int→T):gQ (mr s v (t.ap (bV s))) aP↔gQ s aP∧jC [(.var v,t)] aP:=by
 have ak:jC [(.var v,t)] aP↔aP v=t.ap aP:=by simp[jC,T.ap]
 rw[ak];constructor
 ·intro h;have bn:aP v=(t.ap (bV s)).ap aP:=h _ (qg.2 (.inl rfl));have J:gQ s aP:=fun b ad=>by have:=h _ (qg.2 (.inr ⟨b,ad,rfl⟩));simp only at this;rw[Vm bn]at this;exact this
  exact⟨J,by rw[MW J t];exact bn⟩
 ·rintro⟨J,U⟩ b ad;have bn:aP v=(t.ap (bV s)).ap aP:=by rw[←MW J t];exact U
  rcases qg.1 ad with rfl|⟨c,au,rfl⟩
  ·exact bn
  ·simp only;rw[Vm bn];exact J c au
open Classical in
theorem YO{s:List al}(ag:fF s){v:Int}{t:T}(aF:df s v=none)(ax:(t.ap (bV s)).occ v=false)(sZ:∀w,t.ap (bV s)= .var w→w<v):iF s [(.var v,t)] (if gp (mr s v (t.ap (bV s)))then some (mr s v (t.ap (bV s)))else none):=by
 have J:=al5 ag aF ax sZ;split
 ·rename_i aL;exact⟨⟨J,aL⟩,W2⟩
 ·rename_i aL;exact fun ai U ar ba=>aL (RG J U (fun aP hr=>(W2 aP).2 (ar aP hr)) ba)
def hk(s:List al):T→T
 | .var n=>bV s n
 |t=>t
def nM(s:List al)(v:Int)(t:T):aZ (List al):=if(t.ap (bV s)).size≤5000∧(t.ap (bV s)).occ v=false∧s.length<400∧∀b∈s,(b.t.ap (one v (t.ap (bV s)))).size≤5000 then some (mr s v (t.ap (bV s)))else none
def j7(rec:List al→T→T→aZ (aZ (List al)))(s:List al):T→T→aZ (aZ (List al))
 | .var i,.var j=>some (if i<j then nM s j (.var i)else if i=j then some s else nM s i (.var j))
 | .var i,y=>some (nM s i y)
 |x,.var j=>some (nM s j x)
 | .pair bD a2,.pair cl b8=>match rec s bD cl with
  |none=>none
  |some none=>some none
  |some (some s1)=>rec s1 a2 b8
 |x,y=>some (if x=y then some s else none)
def kM:Nat→List al→T→T→aZ (aZ (List al))
 |0,_,_,_=>none
 |n+1,s,a,b=>j7 (kM n) s (hk s a) (hk s b)
theorem amC{rec Mx:List al→T→T→aZ (aZ (List al))}(h:∀s a b o,rec s a b=some o→Mx s a b=some o){s:List al}{x y:T}{o:aZ (List al)}(he:j7 rec s x y=some o):j7 Mx s x y=some o:=by
 cases x<;>cases y<;>simp only[j7]at he⊢ <;>try exact he
 rename_i bD a2 cl b8;cases e:rec s bD cl with
 |none=>rw[e]at he;cases he
 |some gU=>
  rw[e]at he;rw[h _ _ _ _ e];cases gU with
  |none=>exact he
  |some s1=>exact h _ _ _ _ he
theorem D1:∀{n m:Nat} {s:List al} {a b:T} {o:aZ (List al)},n≤m→kM n s a b=some o→kM m s a b=some o
 |0,_,_,_,_,_,_,h=>by simp[kM]at h
 |n+1,0,_,_,_,_,hm,_=>by omega
 |n+1,m+1,s,a,b,o,hm,h=>by simp only[kM]at h⊢;exact amC (fun s a b o h=>D1 (by omega) h) h
theorem Jy{s:List al}{v:Int}{x:T}:gp (mr s v x)↔(x.size≤5000∧s.length<400∧∀b∈s,(b.t.ap (one v x)).size≤5000):=by
 have aw:(mr s v x).length=s.length+1:=by simp[mr,Ur]
 unfold gp;rw[aw];constructor
 ·rintro⟨J,U⟩;exact⟨U _ (qg.2 (.inl rfl)),by omega,fun b ad=>U _ (qg.2 (.inr ⟨b,ad,rfl⟩))⟩
 ·rintro⟨J,U,ar⟩;refine⟨by omega,fun b ad=>?_⟩;rcases qg.1 ad with rfl|⟨c,au,rfl⟩
  ·exact J
  ·exact ar c au
theorem YP{s:List al}(ag:fF s){v:Int}{t:T}(aF:df s v=none)(cF:t.ap (bV s)≠ .var v)(sZ:∀w,t.ap (bV s)= .var w→w<v):iF s [(.var v,t)] (nM s v t):=by
 unfold nM;cases ax:(t.ap (bV s)).occ v with
 |true=>
  rw[if_neg (by simp)];refine Eu fun aP J U=>?_;have ar:=(q5.1 U).1;simp only[T.ap]at ar;rw[MW J t]at ar;have ab:(t.ap (bV s)).kind≠1:=by
   intro ab;cases e:t.ap (bV s)with
   |var w=>rw[e]at ax;simp[T.occ]at ax;subst ax;exact cF e
   |_=>rw[e]at ab;simp[T.kind]at ab
  have:=(AD aP ax).2 ab;rw[←ar]at this;omega
 |false=>
  have J:=YO ag aF ax sZ;by_cases aL:gp (mr s v (t.ap (bV s)))
  ·rw[if_pos aL]at J;rw[if_pos ⟨(Jy.1 aL).1,rfl,(Jy.1 aL).2⟩];exact J
  ·rw[if_neg aL]at J;rw[if_neg fun h=>aL (Jy.2 ⟨h.1,h.2.2⟩)];exact J
theorem Ye{s:List al}(ag:fF s){t:T}{i:Int}(h:hk s t= .var i):df s i=none:=by
 cases t with
 |var n=>
  simp only[hk,bV]at h;cases e:df s n with
  |none=>rw[e]at h;simp at h;subst h;exact e
  |some u=>rw[e]at h;simp at h;subst h;exact ag.free _ (jU e) i (by simp[T.occ])
 |_=>simp[hk]at h
theorem ND{s:List al}{aP:Int→T}(h:gQ s aP)(t:T):(hk s t).ap aP=t.ap aP:=by
 cases t with
 |var n=>
  simp only[hk,T.ap,bV];cases e:df s n with
  |none=>rfl
  |some u=>exact(h _ (jU e)).symm
 |_=>rfl
theorem Yg{s:List al}(ag:fF s)(t:T):(hk s t).ap (bV s)=t.ap (bV s):=ND (yO ag) t
def p8(V:List Int)(t:T):Prop:= ∀w,t.occ w=true→w∈V
def ya(V:List Int)(s:List al):Prop:= ∀b∈s,b.v∈V∧p8 V b.t
def zn(V:List Int)(s:List al):Nat:=(V.filter fun v=>(df s v).isNone).length
theorem RF{α:Type}{p q:α→Bool}{v:α}:∀{V:List α},(∀x∈V,q x=true→p x=true)→v∈V→p v=true→q v=false→(V.filter q).length<(V.filter p).length
 |[],_,h,_,_=>by simp at h
 |x::V,h,aF,bG,bo=>by
  have hle:∀W:List α,(∀x∈W,q x=true→p x=true)→(W.filter q).length≤(W.filter p).length:=by
   intro W;induction W with
   |nil=>intro _;simp
   |cons y W bO=>intro B9;have:=bO fun x af=>B9 x (by simp[af]);have aM:=B9 y (by simp);simp only[List.filter_cons];cases e:q y<;>cases aE:p y<;>simp_all<;>omega
  simp only[List.filter_cons];rcases fR.1 aF with rfl|aF
  ·have:=hle V fun x af=>h x (by simp[af]);simp[bG,bo];omega
  ·have:=RF (fun x af=>h x (pS _ af)) aF bG bo;have af:=h x (by simp);cases e:q x<;>cases aE:p x<;>simp_all<;>omega
theorem aad{V:List Int}{s:List al}{v:Int}{x:T}(aF:v∈V)(ay:df s v=none):zn V (mr s v x)<zn V s:=by
 unfold zn;refine RF (v:=v) (fun w _ h=>?_) aF (by simp[ay]) ?_
 ·rw[Option.isNone_iff_eq_none,Ey]at h;simp[h.2]
 ·cases e:df (mr s v x) v with
  |none=>exact absurd rfl (Ey.1 e).1
  |some _=>rfl
theorem Tu{V:List Int}{s:List al}(h:ya V s){t:T}(aK:p8 V t):p8 V (t.ap (bV s)):=fun w hw=>by
 obtain⟨u,J,U⟩:=Dj.1 hw;unfold bV at U;cases e:df s u with
 |none=>rw[e]at U;simp[T.occ]at U;subst U;exact aK _ J
 |some x=>rw[e]at U;exact(h _ (jU e)).2 w U
theorem agk{V:List Int}{s:List al}(h:ya V s){v:Int}{x:T}(aF:v∈V)(af:p8 V x):ya V (mr s v x):=fun b ad=>by
 rcases qg.1 ad with rfl|⟨c,au,rfl⟩
 ·exact⟨aF,af⟩
 ·refine⟨(h c au).1,fun w hw=>?_⟩;obtain⟨u,J,U⟩:=Dj.1 hw;unfold one at U;split at U
  ·exact af w U
  ·simp[T.occ]at U;subst U;exact(h c au).2 _ J
theorem Tv{V:List Int}{s:List al}(h:ya V s){t:T}(aK:p8 V t):p8 V (hk s t):=by
 cases t with
 |var n=>have:=Tu h aK;simpa[hk,T.ap]using this
 |_=>exact aK
def Bx(V:List Int)(s:List al)(a b:T)(o:aZ (List al)):Prop:=iF s [(a,b)] o∧∀ai,o=some ai→ya V ai∧(ai=s∨zn V ai<zn V s)
theorem D2{V:List Int}{s:List al}(ag:fF s)(jq:ya V s){v:Int}{t a b:T}(aF:v∈V)(aK:p8 V t)(ay:df s v=none)(cF:t.ap (bV s)≠ .var v)(sZ:∀w,t.ap (bV s)= .var w→w<v)(au:∀aP,gQ s aP→(aP v=t.ap aP↔a.ap aP=b.ap aP)):Bx V s a b (nM s v t):=by
 refine⟨By (fun aP=>?_) (YP ag ay cF sZ),fun ai h=>?_⟩
 ·refine and_congr_right fun h=>?_;rw[q5,q5];simp only[T.ap,au aP h]
 ·unfold nM at h;split at h
  ·cases h;exact⟨agk jq aF (Tu jq aK),.inr (aad aF ay)⟩
  ·cases h
theorem A6{s:List al}{i:Int}(h:df s i=none):bV s i= .var i:=by simp[bV,h]
theorem Xz(V:List Int)(k:Nat):∀(m:Nat) (s:List al) (a b:T),fF s→gp s→ya V s→p8 V a→p8 V b→zn V s=k→(a.ap (bV s)).size+(b.ap (bV s)).size=m→
  ∃n o,kM n s a b=some o∧Bx V s a b o:=by
 induction k using Nat.strongRecOn with
 |ind k KI=>
 intro m;induction m using Nat.strongRecOn with
 |ind m Af=>
 intro s a b ag aL jq bz ad ab hm;have af:=Tv jq bz;have aM:=Tv jq ad;have M6:=Yg ag a;have M7:=Yg ag b;have tX:=fun aP (h:gQ s aP)=>ND h a;have nK:=fun aP (h:gQ s aP)=>ND h b;have qL:=fun i=>Ye ag (t:=a) (i:=i);have JC:=fun i=>Ye ag (t:=b) (i:=i);have key:∀(rec:List al→T→T→aZ (aZ (List al))) (o:aZ (List al)),j7 rec s (hk s a) (hk s b)=some o→(∀bD a2 cl b8,hk s a= .pair bD a2→hk s b= .pair cl b8→Bx V s a b o)→Bx V s a b o:=by
  intro rec o he bG;cases ex:hk s a with
  |var i=>
   have Fc:=qL i ex;have qD:=fun aP h=>(tX aP h).symm.trans (by rw[ex]);cases hZ:hk s b with
   |var j=>
    have xD:=JC j hZ;have pf:=fun aP h=>(nK aP h).symm.trans (by rw[hZ]);rw[ex,hZ]at he;simp only[j7]at he;have hi:i∈V:=by rw[ex]at af;exact af i (by simp[T.occ])
    have ae:j∈V:=by rw[hZ]at aM;exact aM j (by simp[T.occ])
    rcases Int.lt_trichotomy i j with h|h|h
    ·rw[if_pos h]at he;cases he;refine D2 ag jq ae (by rw[ex]at af;exact af) xD (by simp[T.ap,A6 Fc];omega) (fun w hw=>by simp[T.ap,A6 Fc]at hw;omega) fun aP hr=>?_;rw[qD aP hr,pf aP hr];simp only[T.ap];exact⟨Eq.symm,Eq.symm⟩
    ·subst h;rw[if_neg (by omega),if_pos rfl]at he;cases he;refine⟨⟨⟨ag,aL⟩,fun aP=>⟨fun h=>⟨h,q5.2 ⟨?_,DW aP⟩⟩,fun h=>h.1⟩⟩,fun ai e=>by cases e;exact⟨jq,.inl rfl⟩⟩;simp only;rw[qD aP h,pf aP h]
    ·rw[if_neg (by omega),if_neg (by omega)]at he;cases he;refine D2 ag jq hi (by rw[hZ]at aM;exact aM) Fc (by simp[T.ap,A6 xD];omega) (fun w hw=>by simp[T.ap,A6 xD]at hw;omega) fun aP hr=>?_;rw[qD aP hr,pf aP hr];simp only[T.ap]
   |_=>have pf:=fun aP h=>(nK aP h).symm.trans (by rw[hZ]);rw[ex,hZ]at he;simp only[j7]at he;cases he;refine D2 ag jq (by rw[ex]at af;exact af i (by simp[T.occ])) (by rw[hZ]at aM;exact aM) Fc (by simp[T.ap]) (fun w hw=>by simp[T.ap]at hw) fun aP hr=>?_;rw[qD aP hr,pf aP hr];simp only[T.ap]
  |pair bD a2=>
   cases hZ:hk s b with
   |pair cl b8=>exact bG bD a2 cl b8 ex hZ
   |var j=>have xD:=JC j hZ;have qD:=fun aP h=>(tX aP h).symm.trans (by rw[ex]);have pf:=fun aP h=>(nK aP h).symm.trans (by rw[hZ]);rw[ex,hZ]at he;simp only[j7]at he;cases he;refine D2 ag jq (by rw[hZ]at aM;exact aM j (by simp[T.occ])) (by rw[ex]at af;exact af) xD (by simp[T.ap]) (fun w hw=>by simp[T.ap]at hw) fun aP hr=>?_;rw[qD aP hr,pf aP hr];simp only[T.ap];exact⟨Eq.symm,Eq.symm⟩
   |_=>have qD:=fun aP h=>(tX aP h).symm.trans (by rw[ex]);have pf:=fun aP h=>(nK aP h).symm.trans (by rw[hZ]);rw[ex,hZ]at he;simp only[j7]at he;simp at he;subst he;refine⟨Eu fun aP J U=>?_,fun ai e=>by cases e⟩;have:=(q5.1 U).1;simp only at this;rw[qD aP J,pf aP J]at this;simp[T.ap]at this
  |_=>
   have qD:=fun aP h=>(tX aP h).symm.trans (by rw[ex]);cases hZ:hk s b with
   |var j=>have xD:=JC j hZ;have pf:=fun aP h=>(nK aP h).symm.trans (by rw[hZ]);rw[ex,hZ]at he;simp only[j7]at he;cases he;refine D2 ag jq (by rw[hZ]at aM;exact aM j (by simp[T.occ])) (by rw[ex]at af;exact af) xD (by simp[T.ap]) (fun w hw=>by simp[T.ap]at hw) fun aP hr=>?_;rw[qD aP hr,pf aP hr];simp only[T.ap];exact⟨Eq.symm,Eq.symm⟩
   |_=>
    have pf:=fun aP h=>(nK aP h).symm.trans (by rw[hZ]);rw[ex,hZ]at he;simp only[j7,dL]at he;split at he
    ·rename_i e;subst he;refine⟨⟨⟨ag,aL⟩,fun aP=>⟨fun h=>⟨h,q5.2 ⟨?_,DW aP⟩⟩,fun h=>h.1⟩⟩,fun ai e=>by cases e;exact⟨jq,.inl rfl⟩⟩;simp only;rw[qD aP h,pf aP h];try rw[e]
    ·rename_i e;subst he;refine⟨Eu fun aP J U=>?_,fun ai e=>by cases e⟩;have:=(q5.1 U).1;simp only at this;rw[qD aP J,pf aP J]at this;simp[T.ap]at this e;try exact e this
 by_cases FO:∃bD a2 cl b8,hk s a= .pair bD a2∧hk s b= .pair cl b8
 ·obtain⟨bD,a2,cl,b8,ex,hZ⟩:=FO;have ee:(bD.ap (bV s)).size+(cl.ap (bV s)).size<m∧(a2.ap (bV s)).size+(b8.ap (bV s)).size<m:=by rw[ex]at M6;rw[hZ]at M7;simp only[T.ap]at M6 M7;rw[←hm,←M6,←M7];simp only[T.size];omega
  have lb:p8 V bD:=fun w hw=>by rw[ex]at af;exact af w (by simp[T.occ,hw])
  have p1:p8 V a2:=fun w hw=>by rw[ex]at af;exact af w (by simp[T.occ,hw])
  have lB:p8 V cl:=fun w hw=>by rw[hZ]at aM;exact aM w (by simp[T.occ,hw])
  have pA:p8 V b8:=fun w hw=>by rw[hZ]at aM;exact aM w (by simp[T.occ,hw])
  have Sx:∀aP,(gQ s aP∧jC ([(bD,cl)]++[(a2,b8)]) aP)↔(gQ s aP∧jC [(a,b)] aP):=fun aP=>and_congr_right fun h=>by simp only[List.singleton_append,q5,DW,and_true];rw[←tX aP h,←nK aP h,ex,hZ];simp[T.ap]
  obtain⟨h2,gU,ak,cP⟩:=Af _ ee.1 s bD cl ag aL jq lb lB ab rfl;cases gU with
  |none=>refine⟨h2+1,none,?_,By Sx (Ia _ cP.1),fun ai e=>by cases e⟩;simp only[kM,ex,hZ,j7,ak]
  |some s1=>
   obtain⟨v1,v2⟩:=cP.2 s1 rfl;have CC:∃gl gM,kM gl s1 a2 b8=some gM∧Bx V s1 a2 b8 gM:=by
    rcases v2 with rfl|v2
    ·exact Af _ ee.2 _ a2 b8 ag aL jq p1 pA ab rfl
    ·exact KI _ (by omega) _ s1 a2 b8 cP.1.1.1 cP.1.1.2 v1 p1 pA rfl rfl
   obtain⟨gl,gM,aE,dt⟩:=CC;refine⟨max h2 gl+1,gM,?_,By Sx (N0 cP.1 dt.1),fun ai e=>?_⟩
   ·simp only[kM,ex,hZ,j7,D1 (Nat.le_max_left h2 gl) ak];exact D1 (Nat.le_max_right h2 gl) aE
   ·obtain⟨eg,dv⟩:=dt.2 ai e;refine⟨eg,?_⟩;rcases v2 with rfl|v2
    ·exact dv
    ·rcases dv with rfl|dv
     ·exact .inr v2
     ·exact .inr (by omega)
 ·have S1:∀bD a2 cl b8,hk s a= .pair bD a2→hk s b= .pair cl b8→eQ:=fun bD a2 cl b8 J U=>FO ⟨bD,a2,cl,b8,J,U⟩;have:∃o,j7 (kM 0) s (hk s a) (hk s b)=some o:=by cases ex:hk s a<;>cases hZ:hk s b<;>simp only[j7]<;>first|exact⟨_,rfl⟩|exact(S1 _ _ _ _ ex hZ).elim
  obtain⟨o,ax⟩:=this;exact⟨1,o,ax,key _ o ax fun bD a2 cl b8 J U=>(S1 bD a2 cl b8 J U).elim⟩
def c5{α:Type}(k:Int):List (Int×α)→aZ α
 |[]=>none
 |(i,v)::r=>if k=i then some v else c5 k r
def eP{α:Type}(k:Int)(v:α):List (Int×α)→List (Int×α)
 |[]=>[(k,v)]
 |(i,w)::r=>if k=i then(i,v)::r else(i,w)::eP k v r
def cv{α:Type}(m:List (Int×α)):List Int:=m.map (·.1)
theorem nB{α:Type}(k:Int)(v:α)(j:Int):∀m:List (Int×α),c5 j (eP k v m)=if j=k then some v else c5 j m
 |[]=>by simp only[eP,c5]
 |(i,w)::r=>by
  simp only[eP];by_cases h:k=i
  ·subst h;by_cases U:j=k<;>simp[c5,U]
  ·by_cases U:j=i
   ·subst U;have:¬j=k:=fun e=>h e.symm;simp[c5,h,this]
   ·simp[c5,h,U,nB k v j r]
theorem HE{α:Type}{k:Int}:∀{m:List (Int×α)},(c5 k m).isSome=true↔k∈cv m
 |[]=>by simp[c5,cv]
 |(i,w)::r=>by
  simp only[c5,cv,gO,fR];by_cases h:k=i
  ·simp[h]
  ·simp only[h,if_false,false_or];exact HE
theorem amv{α:Type}{k:Int}{m:List (Int×α)}:c5 k m=none↔k∉cv m:=by rw[←HE];cases c5 k m<;>simp
theorem CZ{α:Type}{k:Int}{v:α}:∀{m:List (Int×α)},k∈cv m→cv (eP k v m)=cv m
 |[],h=>by simp[cv]at h
 |(i,w)::r,h=>by
  simp only[eP];by_cases e:k=i
  ·simp[e,cv]
  ·rw[if_neg e];have cb:k∈cv r:=by simpa[cv,e]using h
   have:=CZ (v:=v) cb;simp only[cv]at this⊢;simp[this]
theorem T1{α:Type}{k:Int}{v:α}:∀{m:List (Int×α)},k∉cv m→cv (eP k v m)=cv m++[k]
 |[],h=>by simp[cv,eP]
 |(i,w)::r,h=>by have e:¬k=i:=fun e=>h (by simp[cv,e]);have cb:k∉cv r:=fun ab=>h (by simp[cv]at ab⊢;exact .inr ab);have:=T1 (v:=v) cb;simp only[eP,if_neg e];simp only[cv]at this⊢;simp[this]
structure bu where
 up:List (Int×Int)
 shape:List (Int×T)
 shaped:List (Int×Bool)
 color:List (Int×Int)
 size:List (Int×Int)
 full:List (Int×T)
def bu.shd(c:bu)(x:Int):Bool:=(c5 x c.shaped).getD false
def bu.shp(c:bu)(x:Int):T:=(c5 x c.shape).getD .nil
def bu.col(c:bu)(x:Int):Int:=(c5 x c.color).getD 0
def bu.sz(c:bu)(x:Int):Int:=(c5 x c.size).getD 0
def iV(m:List (Int×Int))(v:Int):Int:=(c5 v m).getD 0
def wT:Nat→List (Int×Int)→Int→aZ (Int×List (Int×Int))
 |0,_,_=>none
 |n+1,m,v=>if iV m v=v then some (v,m)else wT n (eP v (iV m (iV m v)) m) (iV (eP v (iV m (iV m v)) m) v)
def y8(v:Int)(m:List (Int×Int)):List (Int×Int):=if(c5 v m).isSome then m else eP v v m
def rt(c:bu)(v:Int):aZ (Int×bu):=(wT (v.toNat+1) (y8 v c.up) v).map fun p=>(p.1,{c with up:=p.2})
def T.foldO{α:Type}(f:Int→α→aZ α):T→α→aZ α
 | .var n,a=>f n a
 | .pair x y,a=>(x.foldO f a).bind (y.foldO f)
 |_,a=>some a
def T.mapO{α:Type}(f:Int→α→aZ (T×α)):T→α→aZ (T×α)
 | .var n,a=>f n a
 | .pair x y,a=>(x.mapO f a).bind fun p=>(y.mapO f p.2).map fun q=>(.pair p.1 q.1,q.2)
 |t,a=>some (t,a)
def T.sizeO{α:Type}(f:Int→α→aZ (Int×α)):T→α→aZ (Int×α)
 | .var n,a=>(f n a).map fun p=>(if 5001<p.1 then 5001 else p.1,p.2)
 | .pair x y,a=>(x.sizeO f a).bind fun p=>if 5000<p.1 then some p else(y.sizeO f p.2).map fun q=>(if 5001<1+p.1+q.1 then 5001 else 1+p.1+q.1,q.2)
 |_,a=>some (1,a)
def Ar(t:T)(c:bu):aZ bu:=t.foldO (fun v c=>(rt c v).map (·.2)) c
structure tQ where
 c:bu
 seen:List (Int×Bool)
 found:Bool
def wS(rec:T→bu→List (Int×Bool)→aZ tQ)(x:Int)(v:Int)(a:tQ):aZ tQ:=
 (rt a.c v).bind fun p=>if a.found=true∨p.1=x then some ⟨p.2,a.seen,true⟩
  else if(c5 p.1 a.seen).getD false=false∧p.2.shd p.1=true then rec (p.2.shp p.1) p.2 (eP p.1 true a.seen)
  else some ⟨p.2,a.seen,a.found⟩
def pK:Nat→Int→T→bu→List (Int×Bool)→aZ tQ
 |0,_,_,_,_=>none
 |n+1,x,t,c,seen=>t.foldO (wS (pK n x) x) ⟨c,seen,false⟩
def bu.know(c:bu)(x:Int)(t:T):bu:={c with shape:=eP x t c.shape,shaped:=eP x true c.shaped}
def uS(n:Nat)(x:Int)(t:T)(c:bu):aZ (Bool×bu):=(pK n x t (c.know x t) []).map fun a=>(!a.found,a.c)
def bu.join(c:bu)(x y:Int):bu:={c with up:=eP y x c.up}
def ry(rec:T→T→bu→aZ (Bool×bu))(n:Nat)(x y:Int)(c:bu):aZ (Bool×bu):=
 if c.shd y=false then
  (if c.shd x=false then some (true,c)else(pK n x (c.shp x) c []).map fun a=>(!a.found,a.c))
 else if c.shd x=false then uS n x (c.shp y) c
 else(pK n x (c.shp y) c []).bind fun a=>if a.found=true then some (false,a.c)else
  (pK n x (a.c.shp x) a.c []).bind fun b=>if b.found=true then some (false,b.c)else rec (b.c.shp x) (c.shp y) b.c
def gA:Nat→T→T→bu→aZ (Bool×bu)
 |0,_,_,_=>none
 |n+1,.var i,.var j,c=>(rt c i).bind fun p=>(rt p.2 j).bind fun q=>if p.1=q.1 then some (true,q.2)else if q.1<p.1 then ry (gA n) n q.1 p.1 (q.2.join q.1 p.1)else ry (gA n) n p.1 q.1 (q.2.join p.1 q.1)
 |n+1,.var i,b,c=>(rt c i).bind fun p=>if p.2.shd p.1=false then uS n p.1 b p.2 else gA n (p.2.shp p.1) b p.2
 |n+1,a,.var j,c=>gA n (.var j) a c
 |n+1,.pair bD a2,.pair cl b8,c=>(gA n bD cl c).bind fun p=>if p.1=true then gA n a2 b8 p.2 else some (false,p.2)
 |_+1,a,b,c=>some (decide (a=b),c)
structure jB (m:List (Int×Int)) (ρ:Int→Int):Prop where
 up:∀v u,c5 v m=some u→(0≤u∧u≤v∧u∈cv m)∧ρ u=ρ v∧(ρ v=v↔u=v)
 no:∀v,v∉cv m→ρ v=v
theorem jB.get{m:List (Int×Int)}{ρ:Int→Int}(h:jB m ρ){v:Int}(aF:v∈cv m):∃u,c5 v m=some u∧iV m v=u:=by have:=HE.2 aF;obtain⟨u,hu⟩:=fM.1 this;exact⟨u,hu,by simp[iV,hu]⟩
theorem jB.root{m:List (Int×Int)}{ρ:Int→Int}(h:jB m ρ):∀(n:Nat) (v:Int),v.toNat≤n→(ρ v≤v∧ρ (ρ v)=ρ v∧(v∈cv m→ρ v∈cv m∧0≤ρ v)):=by
 intro n;induction n using Nat.strongRecOn with
 |ind n bO=>
 intro v ay;by_cases aF:v∈cv m
 ·obtain⟨u,J,_⟩:=h.get aF;obtain⟨⟨bD,a2,a3⟩,a4,a5⟩:=h.up v u J;by_cases e:u=v
  ·have:=a5.2 e;subst e;rw[this];exact⟨by omega,this,fun _=>⟨a3,bD⟩⟩
  ·obtain⟨cl,b8,fG⟩:=bO (u.toNat) (by omega) u (by omega);rw[←a4];exact⟨by omega,b8,fun _=>fG a3⟩
 ·have:=h.no v aF;rw[this];exact⟨by omega,this,fun h=>absurd h aF⟩
theorem jB.le{m:List (Int×Int)}{ρ:Int→Int}(h:jB m ρ)(v:Int):ρ v≤v:=(h.root v.toNat v (eR _)).1
theorem jB.idem{m:List (Int×Int)}{ρ:Int→Int}(h:jB m ρ)(v:Int):ρ (ρ v)=ρ v:=(h.root v.toNat v (eR _)).2.1
theorem jB.mem{m:List (Int×Int)}{ρ:Int→Int}(h:jB m ρ){v:Int}(aF:v∈cv m):ρ v∈cv m∧0≤ρ v:=(h.root v.toNat v (eR _)).2.2 aF
theorem WT{ρ:Int→Int}:∀(n:Nat) (m:List (Int×Int)) (v:Int),jB m ρ→v∈cv m→v.toNat<n→∃ht,wT n m v=some (ρ v,ht)∧jB ht ρ∧cv ht=cv m
 |0,_,_,_,_,ay=>by omega
 |n+1,m,v,h,aF,ay=>by
  obtain⟨u,J,U⟩:=h.get aF;obtain⟨⟨bD,a2,a3⟩,a4,a5⟩:=h.up v u J;simp only[wT,U];by_cases e:u=v
  ·rw[if_pos e];have:=a5.2 e;exact⟨m,by rw[this],h,rfl⟩
  ·rw[if_neg e];obtain⟨x,g1,g2⟩:=h.get a3;obtain⟨⟨cl,b8,fG⟩,ou,On⟩:=h.up u x g1;rw[g2];have ab:=CZ (v:=x) aF;have l8:jB (eP v x m) ρ:=by
    refine⟨fun w y hw=>?_,fun w hw=>h.no w (by rw[ab]at hw;exact hw)⟩;rw[nB]at hw;rw[ab];by_cases ew:w=v
    ·subst ew;rw[if_pos rfl]at hw;cases hw;refine⟨⟨cl,by omega,fG⟩,by rw[ou,a4],⟨fun aJ=>absurd (a5.1 aJ) e,fun af=>?_⟩⟩;have:u=w:=by omega
     exact absurd this e
    ·rw[if_neg ew]at hw;exact h.up w y hw
   have af0:iV (eP v x m) v=x:=by simp[iV,nB]
   rw[af0];obtain⟨ht,bL,cp,dc⟩:=WT n (eP v x m) x l8 (by rw[ab];exact fG) (by omega);exact⟨ht,by rw[bL,ou,a4],cp,by rw[dc,ab]⟩
structure iE (ρ:Int→Int) (c cu:bu):Prop where
 ru:jB cu.up ρ
 keys:cv cu.up=cv c.up
 eq:cu={c with up:=cu.up}
theorem iE.refl{ρ:Int→Int}{c:bu}(h:jB c.up ρ):iE ρ c c:=⟨h,rfl,rfl⟩
theorem iE.trans{ρ:Int→Int}{a b c:bu}(h:iE ρ a b)(k:iE ρ b c):iE ρ a c:=⟨k.ru,k.keys.trans h.keys,by rw[k.eq,h.eq]⟩
theorem iE.shd{ρ:Int→Int}{c cu:bu}(h:iE ρ c cu)(x:Int):cu.shd x=c.shd x:=by rw[h.eq];rfl
theorem iE.shp{ρ:Int→Int}{c cu:bu}(h:iE ρ c cu)(x:Int):cu.shp x=c.shp x:=by rw[h.eq];rfl
theorem tu{ρ:Int→Int}{c:bu}{v:Int}(h:jB c.up ρ)(aF:v∈cv c.up):∃cu,rt c v=some (ρ v,cu)∧iE ρ c cu:=by
 have bz:y8 v c.up=c.up:=by simp[y8,HE.2 aF]
 obtain⟨ht,J,U,ar⟩:=WT (v.toNat+1) c.up v h aF (by omega);exact⟨{c with up:=ht},by simp[rt,bz,J],⟨U,ar,rfl⟩⟩
theorem alx{ρ:Int→Int}{c:bu}{v:Int}(h:jB c.up ρ)(bn:0≤v)(aF:v∉cv c.up):rt c v=some (v,{c with up:=eP v v c.up})∧jB (eP v v c.up) ρ∧cv (eP v v c.up)=cv c.up++[v]:=by
 have ay:=amv.2 aF;have ab:=T1 (v:=v) aF;refine⟨?_,⟨fun w u hw=>?_,fun w hw=>h.no w fun hm=>hw (by rw[ab];simp[hm])⟩,ab⟩
 ·simp[rt,y8,ay,wT,iV,nB]
 ·rw[nB]at hw;rw[ab];by_cases e:w=v
  ·subst e;rw[if_pos rfl]at hw;cases hw;exact⟨⟨bn,by omega,by simp⟩,rfl,⟨fun _=>rfl,fun _=>h.no _ aF⟩⟩
  ·rw[if_neg e]at hw;obtain⟨⟨bD,a2,a3⟩,a4⟩:=h.up w u hw;exact⟨⟨bD,a2,by simp[a3]⟩,a4⟩
def bu.ph(c:bu)(x:Int):aZ T:=if c.shd x then some (c.shp x)else none
theorem iE.ph{ρ:Int→Int}{c cu:bu}(h:iE ρ c cu):cu.ph=c.ph:=by funext x;simp only[bu.ph,h.shd,h.shp]
def kc(ph:Int→aZ T)(ρ:Int→Int)(aP:Int→T):Prop:=(∀v,aP v=aP (ρ v))∧∀x t,ρ x=x→ph x=some t→aP x=t.ap aP
def iY(ph:Int→aZ T)(ρ:Int→Int)(z u:Int):Prop:=ρ z=z∧∃t w,ph z=some t∧t.occ w=true∧ρ w=u
inductive mT (E:Int→Int→Prop):Int→Int→Prop
 |refl (a:Int):mT E a a
 |step {a b c:Int}:E a b→mT E b c→mT E a c
def ot(V:List Int)(ph:Int→aZ T):Prop:= ∀x t,ph x=some t→t.kind≠1∧(∀w,t.occ w=true→w∈V)∧x∈V
def HJ(V:List Int)(ph:Int→aZ T)(seen:List (Int×Bool)):Nat:=(V.filter fun v=>(ph v).isSome&& !((c5 v seen).getD false)).length
def mD(seen:List (Int×Bool))(z:Int):Prop:=(c5 z seen).getD false=true
structure YI (V:List Int) (ph:Int→aZ T) (ρ:Int→Int) (x:Int) (occ:Int→Prop) (a bp:tQ):Prop where
 sm:iE ρ a.c bp.c
 sub:∀z,mD a.seen z→mD bp.seen z
 yes:bp.found=true→a.found=true∨ ∃w,occ w∧mT (iY ph ρ) (ρ w) x
 kept:a.found=true→bp.found=true
 no:bp.found=false→(∀w,occ w→ρ w≠x∧((ph (ρ w)).isSome=true→mD bp.seen (ρ w)))∧∀r,mD bp.seen r→¬mD a.seen r→∀u,iY ph ρ r u→u≠x∧((ph u).isSome=true→mD bp.seen u)
theorem Fe{α:Type}{p q:α→Bool}:∀{V:List α},(∀x∈V,q x=true→p x=true)→(V.filter q).length≤(V.filter p).length
 |[],_=>by simp
 |y::V,h=>by have:=Fe (p:=p) (q:=q) (V:=V) fun x af=>h x (by simp[af]);have aM:=h y (by simp);simp only[List.filter_cons];cases e:q y<;>cases aE:p y<;>simp_all<;>omega
theorem Ff{α:Type}{p q:α→Bool}{v:α}:∀{V:List α},(∀x∈V,q x=true→p x=true)→v∈V→p v=true→q v=false→(V.filter q).length<(V.filter p).length
 |[],_,h,_,_=>by simp at h
 |x::V,h,aF,bG,bo=>by
  have hle:=Fe (p:=p) (q:=q) (V:=V) fun x af=>h x (pS _ af);simp only[List.filter_cons];rcases fR.1 aF with rfl|aF
  ·simp[bG,bo];omega
  ·have:=Ff (fun x af=>h x (pS _ af)) aF bG bo;have af:=h x (by simp);cases e:q x<;>cases aE:p x<;>simp_all<;>omega
theorem amE{V:List Int}{ph:Int→aZ T}{s ai:List (Int×Bool)}(h:∀z,mD s z→mD ai z):HJ V ph ai≤HJ V ph s:=
 Fe fun x _ af=>by
  simp only[cC,Bool.not_eq_true']at af⊢;refine⟨af.1,?_⟩;cases e:(c5 x s).getD false with
  |false=>rfl
  |true=>have:=h x e;unfold mD at this;rw[af.2]at this;cases this
theorem KJ{s:List (Int×Bool)}{r z:Int}:mD (eP r true s) z↔z=r∨mD s z:=by unfold mD;rw[nB];by_cases h:z=r<;>simp[h]
theorem alp{V:List Int}{ph:Int→aZ T}{ρ:Int→Int}{x:Int}(gF:ot V ph)(k:Nat):∀(t:T) (a:tQ),jB a.c.up ρ→cv a.c.up=V→a.c.ph=ph→(∀w,t.occ w=true→w∈V)→HJ V ph a.seen≤k→
  ∃N bp,(∀n,N≤n→t.foldO (wS (pK n x) x) a=some bp)∧YI V ph ρ x (fun w=>t.occ w=true) a bp:=by
 induction k using Nat.strongRecOn with
 |ind k KI=>
 intro t;induction t with
 |var v=>
  intro a l8 ab jt aK CM;obtain⟨bL,J,U⟩:=tu l8 (by rw[ab];exact aK v (by simp[T.occ]));have jW:bL.shd (ρ v)=(ph (ρ v)).isSome:=by rw[U.shd,←jt];simp only[bu.ph];split<;>simp_all
  by_cases aL:a.found=true∨ρ v=x
  ·refine⟨0,⟨bL,a.seen,true⟩,fun n _=>by simp[T.foldO,wS,J,aL],U,fun z br=>br,fun _=>?_,fun _=>rfl,fun h=>by cases h⟩;rcases aL with aL|aL
   ·exact .inl aL
   ·exact .inr ⟨v,by simp[T.occ],by rw[aL];exact .refl _⟩
  ·by_cases ag:(c5 (ρ v) a.seen).getD false=false∧bL.shd (ρ v)=true
   ·have FN:ph (ρ v)=some (bL.shp (ρ v)):=by rw[←jt];simp only[bu.ph,U.shp];rw[if_pos (by rw[←U.shd];exact ag.2)]
    obtain⟨g1,g2,g3⟩:=gF _ _ FN;have bE:HJ V ph (eP (ρ v) true a.seen)<k:=by
     refine Nat.lt_of_lt_of_le (Ff (v:=ρ v) (fun z _ br=>?_) g3 ?_ ?_) CM
     ·simp only[cC,Bool.not_eq_true']at br⊢;refine⟨br.1,?_⟩;rw[nB]at br;by_cases e:z=ρ v
      ·subst e;exact ag.1
      ·rw[if_neg e]at br;exact br.2
     ·simp[FN,ag.1]
     ·simp[nB]
    obtain⟨N,bp,ak,cP⟩:=KI _ bE (bL.shp (ρ v)) ⟨bL,eP (ρ v) true a.seen,false⟩ U.ru (by rw[U.keys];exact ab) (by rw[U.ph];exact jt) g2 (eR _);refine⟨N+1,bp,fun n ay=>?_,U.trans cP.sm,fun z br=>cP.sub z (KJ.2 (.inr br)),fun aM=>?_,fun h=>absurd (.inl h) aL,fun ct=>?_⟩
    ·obtain⟨n',rfl⟩:∃n',n=n'+1:=⟨n-1,by omega⟩;simp only[T.foldO,wS,J,k7,if_neg aL,if_pos ag,pK];exact ak n' (by omega)
    ·rcases cP.yes aM with h|⟨w,a8,bF⟩
     ·cases h
     ·exact .inr ⟨v,by simp[T.occ],.step ⟨by rw[jB.idem l8],_,w,FN,a8,rfl⟩ bF⟩
    ·obtain⟨a8,bF⟩:=cP.no ct;have jr:mD bp.seen (ρ v):=cP.sub _ (KJ.2 (.inl rfl));refine⟨fun w hw=>?_,fun r aJ dH u hu=>?_⟩
     ·simp[T.occ]at hw;subst hw;exact⟨fun e=>aL (.inr e),fun _=>jr⟩
     ·by_cases qK:r=ρ v
      ·subst qK;obtain⟨_,dO,w,k4,z2,rfl⟩:=hu;rw[FN]at k4;cases k4;exact a8 w z2
      ·exact bF r aJ (fun h=>(KJ.1 h).elim qK dH) u hu
   ·have Ci:a.found=false:=by cases e:a.found with
     |false=>rfl
     |true=>exact absurd (.inl e) aL
    refine⟨0,⟨bL,a.seen,a.found⟩,fun n _=>by simp only[T.foldO,wS,J,k7,if_neg aL,if_neg ag],U,fun z br=>br,fun h=>.inl h,fun h=>h,fun _=>⟨fun w hw=>?_,fun r J U=>absurd J U⟩⟩;simp[T.occ]at hw;subst hw;refine⟨fun e=>aL (.inr e),fun bG=>?_⟩;unfold mD;cases e:(c5 (ρ v) a.seen).getD false with
    |true=>rfl
    |false=>exact absurd ⟨e,by rw[jW];exact bG⟩ ag
 |pair p q agi agj=>
  intro a l8 ab jt aK CM;obtain⟨hI,bD,ak,cP⟩:=agi a l8 ab jt (fun w hw=>aK w (by simp[T.occ,hw])) CM;obtain⟨ja,a2,aE,dt⟩:=agj bD cP.sm.ru (by rw[cP.sm.keys];exact ab) (by rw[cP.sm.ph];exact jt) (fun w hw=>aK w (by simp[T.occ,hw])) (jT (amE cP.sub) CM);refine⟨max hI ja,a2,fun n ay=>by simp only[T.foldO];rw[ak n (by omega)];exact aE n (by omega),cP.sm.trans dt.sm,fun z br=>dt.sub z (cP.sub z br),fun aM=>?_,fun h=>dt.kept (cP.kept h),fun ct=>?_⟩
  ·rcases dt.yes aM with h|⟨w,a8,bF⟩
   ·rcases cP.yes h with h|⟨w,a8,bF⟩
    ·exact .inl h
    ·exact .inr ⟨w,by simp[T.occ,a8],bF⟩
   ·exact .inr ⟨w,by simp[T.occ,a8],bF⟩
  ·have aeu:bD.found=false:=by cases e:bD.found with
    |false=>rfl
    |true=>have:=dt.kept e;rw[ct]at this;cases this
   obtain⟨dM,ff⟩:=cP.no aeu;obtain⟨s1,s2⟩:=dt.no ct;refine⟨fun w hw=>?_,fun r aJ dH u hu=>?_⟩
   ·simp only[T.occ,lX]at hw;rcases hw with hw|hw
    ·exact⟨(dM w hw).1,fun h=>dt.sub _ ((dM w hw).2 h)⟩
    ·exact s1 w hw
   ·by_cases h:mD bD.seen r
    ·exact⟨(ff r h dH u hu).1,fun cw=>dt.sub _ ((ff r h dH u hu).2 cw)⟩
    ·exact s2 r aJ h u hu
 |_=>intro a l8 ab jt aK CM;exact⟨0,a,fun n _=>rfl,iE.refl l8,fun z br=>br,fun h=>.inl h,fun h=>h,fun _=>⟨fun w hw=>by simp[T.occ]at hw,fun r J U=>absurd J U⟩⟩
theorem Ha{ρ:Int→Int}{x:Int}{c:bu}{t:T}(l8:jB c.up ρ)(gF:ot (cv c.up) c.ph)(aK:∀w,t.occ w=true→w∈cv c.up):
  ∃N a,(∀n,N≤n→pK n x t c []=some a)∧iE ρ c a.c∧(a.found=true↔∃w,t.occ w=true∧mT (iY c.ph ρ) (ρ w) x):=by
 obtain⟨N,a,J,U⟩:=alp (x:=x) gF _ t ⟨c,[],false⟩ l8 rfl rfl aK (eR _);refine⟨N+1,a,fun n ay=>?_,U.sm,fun h=>?_,fun⟨w,hw,aJ⟩=>?_⟩
 ·obtain⟨n',rfl⟩:∃n',n=n'+1:=⟨n-1,by omega⟩;exact J n' (by omega)
 ·rcases U.yes h with h|h
  ·cases h
  ·exact h
 ·cases e:a.found with
  |true=>rfl
  |false=>
   obtain⟨a8,bF⟩:=U.no e;have key:∀z,mT (iY c.ph ρ) z x→z≠x→((c.ph z).isSome=true→mD a.seen z)→eQ:=by
    have:∀z y,mT (iY c.ph ρ) z y→y=x→z≠x→((c.ph z).isSome=true→mD a.seen z)→eQ:=by
     intro z y aM;induction aM with
     |refl z=>intro h cb;exact absurd h cb
     | @step z b cu he _ bO=>intro af cF jr;obtain⟨_,dO,w',k4,_,_⟩:=id he;have ag:=jr (by simp[k4]);obtain⟨g1,g2⟩:=bF z ag (by simp[mD,c5]) b he;exact bO af g1 g2
    exact fun z br=>this z x br rfl
   exact(key _ aJ (a8 w hw).1 (a8 w hw).2).elim
end Go.Pv
namespace Go.Pv
open Go
theorem YT{E:Int→Int→Prop}{x:Int}{r:Int→Nat}{M:Nat}(h:∀z u,z≠x→E z u→r u<r z)(fB:∀u,E x u→r u<M)(ay:∀u,E x u→¬mT E u x):∃eF:Int→Nat,∀z u,E z u→eF u<eF z:=by
 classical
 refine⟨fun z=>if mT E z x then r z+M else r z,fun z u he=>?_⟩;show(if mT E u x then r u+M else r u)<(if mT E z x then r z+M else r z);by_cases br:z=x
 ·subst br;have J:=ay u he;have U:=fB u he;rw[if_neg J,if_pos (mT.refl z)];omega
 ·have J:=h z u br he;by_cases hu:mT E u x
  ·rw[if_pos hu,if_pos (mT.step he hu)];omega
  ·rw[if_neg hu];split<;>omega
def mY(ph:Int→aZ T)(ρ:Int→Int):Nat→Int→T
 |0,v=>.var (ρ v)
 |n+1,v=>match ph (ρ v)with
  |none=>.var (ρ v)
  |some t=>t.ap (mY ph ρ n)
section
variable {ph:Int→aZ T} {ρ:Int→Int} {r:Int→Nat}
theorem abk(eT:∀v,ρ (ρ v)=ρ v):∀(n:Nat) (v:Int),mY ph ρ n v=mY ph ρ n (ρ v)
 |0,v=>by simp[mY,eT]
 |n+1,v=>by simp[mY,eT]
theorem Rn(eT:∀v,ρ (ρ v)=ρ v)(aJ:∀z u,iY ph ρ z u→r u<r z):∀(n:Nat) (v:Int),r (ρ v)<n→mY ph ρ n v=mY ph ρ (n+1) v
 |0,_,h=>by omega
 |n+1,v,h=>by
  show(match ph (ρ v)with|none=>T.var (ρ v)|some t=>t.ap (mY ph ρ n))=(match ph (ρ v)with|none=>T.var (ρ v)|some t=>t.ap (mY ph ρ (n+1)));cases e:ph (ρ v)with
  |none=>rfl
  |some t=>refine tW fun w hw=>Rn eT aJ n w ?_;have:=aJ (ρ v) (ρ w) ⟨eT v,t,w,e,hw,rfl⟩;omega
theorem Rm(eT:∀v,ρ (ρ v)=ρ v)(aJ:∀z u,iY ph ρ z u→r u<r z){n:Nat}{v:Int}(h:r (ρ v)<n):∀k,mY ph ρ (n+k) v=mY ph ρ n v
 |0=>rfl
 |k+1=>by rw[←Rm eT aJ h k];exact(Rn eT aJ (n+k) v (by omega)).symm
def gR(ph:Int→aZ T)(ρ:Int→Int)(r:Int→Nat)(v:Int):T:=mY ph ρ (r (ρ v)+1) v
theorem zz(eT:∀v,ρ (ρ v)=ρ v)(v:Int):gR ph ρ r v=gR ph ρ r (ρ v):=by unfold gR;rw[abk eT,eT]
theorem B3{v:Int}(h:ph (ρ v)=none):gR ph ρ r v= .var (ρ v):=by simp[gR,mY,h]
theorem zA(eT:∀v,ρ (ρ v)=ρ v)(aJ:∀z u,iY ph ρ z u→r u<r z){v:Int}{t:T}(h:ph (ρ v)=some t):gR ph ρ r v=t.ap (gR ph ρ r):=by show mY ph ρ (r (ρ v)+1) v=_;simp only[mY,h];refine tW fun w hw=>?_;have J:=aJ (ρ v) (ρ w) ⟨eT v,t,w,h,hw,rfl⟩;have:=Rm eT aJ (n:=r (ρ w)+1) (v:=w) (by omega) (r (ρ v)-(r (ρ w)+1));rw[show r (ρ w)+1+(r (ρ v)-(r (ρ w)+1))=r (ρ v)from by omega]at this;exact this
theorem aes(eT:∀v,ρ (ρ v)=ρ v)(aJ:∀z u,iY ph ρ z u→r u<r z):kc ph ρ (gR ph ρ r):=⟨zz eT,fun x t af h=>zA eT aJ (by rw[af];exact h)⟩
theorem Hw{V:List Int}(gF:ot V ph){aP:Int→T}(h:kc ph ρ aP){z u:Int}(he:iY ph ρ z u):(aP u).size<(aP z).size:=by obtain⟨J,t,w,U,ar,rfl⟩:=he;rw[h.2 z t J U,←h.1 w];exact(AD aP ar).2 (gF z t U).1
theorem Hx{V:List Int}(gF:ot V ph){aP:Int→T}(h:kc ph ρ aP){z u:Int}(he:mT (iY ph ρ) z u):(aP u).size≤(aP z).size:=by
 induction he with
 |refl=>exact eR _
 |step J _ bO=>have:=Hw gF h J;omega
end
theorem Zn(r:Int→Nat)(t:T):∃M,∀w,t.occ w=true→r w<M:=by
 induction t with
 |var n=>exact⟨r n+1,fun w hw=>by simp[T.occ]at hw;subst hw;omega⟩
 |pair a b dX dY=>
  obtain⟨YE,J⟩:=dX;obtain⟨YF,U⟩:=dY;refine⟨YE+YF,fun w hw=>?_⟩;simp only[T.occ,lX]at hw;rcases hw with hw|hw
  ·have:=J w hw;omega
  ·have:=U w hw;omega
 |_=>exact⟨0,fun w hw=>by simp[T.occ]at hw⟩
theorem DQ{ph:Int→aZ T}{ρ:Int→Int}(eT:∀v,ρ (ρ v)=ρ v){x:Int}{r:Int→Nat}(h:∀z u,z≠x→iY ph ρ z u→r u<r z)(ay:∀u,iY ph ρ x u→¬mT (iY ph ρ) u x):∃aP,kc ph ρ aP:=by
 have fB:∃M,∀u,iY ph ρ x u→r u<M:=by
  cases e:ph x with
  |none=>exact⟨0,fun u ⟨_,t,w,J,_⟩=>by rw[e]at J;cases J⟩
  |some t=>obtain⟨M,fB⟩:=Zn (fun w=>r (ρ w)) t;refine⟨M,fun u ⟨_,dO,w,J,U,ar⟩=>?_⟩;rw[e]at J;cases J;subst ar;exact fB w U
 obtain⟨M,fB⟩:=fB;obtain⟨eF,dH⟩:=YT h fB ay;exact⟨_,aes eT dH⟩
structure lZ (c:bu) (ρ:Int→Int):Prop where
 ru:jB c.up ρ
 sh:ot (cv c.up) c.ph
 sat:∃aP,kc c.ph ρ aP
theorem lZ.sm{c cu:bu}{ρ:Int→Int}(h:lZ c ρ)(k:iE ρ c cu):lZ cu ρ:=⟨k.ru,by rw[k.keys,k.ph];exact h.sh,by rw[k.ph];exact h.sat⟩
def iu(c:bu)(ρ:Int→Int):Nat:=((cv c.up).filter fun v=>decide (ρ v=v)).length+((cv c.up).filter fun v=>decide (ρ v=v)&& !(c.ph v).isSome).length
theorem xd{c cu:bu}{ρ:Int→Int}(k:iE ρ c cu):iu cu ρ=iu c ρ:=by unfold iu;rw[k.keys,k.ph]
structure iZ (c:bu) (ρ:Int→Int) (p:(Int→T)→Prop) (o:Bool×bu):Prop where
 keys:cv o.2.up=cv c.up
 rest:o.2.color=c.color∧o.2.size=c.size∧o.2.full=c.full
 yes:o.1=true→∃ρ',lZ o.2 ρ'∧(∀aP,kc o.2.ph ρ' aP↔kc c.ph ρ aP∧p aP)∧((ρ'=ρ∧o.2.ph=c.ph)∨iu o.2 ρ'<iu c ρ)
 no:o.1=false→∀aP,kc c.ph ρ aP→¬p aP
theorem iE.rest{ρ:Int→Int}{c cu:bu}(h:iE ρ c cu):cu.color=c.color∧cu.size=c.size∧cu.full=c.full:=by rw[h.eq];exact⟨rfl,rfl,rfl⟩
theorem iZ.sm{c cu:bu}{ρ:Int→Int}{p:(Int→T)→Prop}{o:Bool×bu}(k:iE ρ c cu)(h:iZ cu ρ p o):iZ c ρ p o:=⟨h.keys.trans k.keys,by rw[h.rest.1,h.rest.2.1,h.rest.2.2];exact k.rest,fun e=>by rw[←xd k,←k.ph];exact h.yes e,by rw[←k.ph];exact h.no⟩
theorem iZ.congr{c:bu}{ρ:Int→Int}{p q:(Int→T)→Prop}{o:Bool×bu}(kB:∀aP,kc c.ph ρ aP→(p aP↔q aP))(h:iZ c ρ p o):iZ c ρ q o:=⟨h.keys,h.rest,fun e=>by obtain⟨ρ',J,U,ar⟩:=h.yes e;exact⟨ρ',J,fun aP=>(U aP).trans (and_congr_right fun ag=>kB aP ag),ar⟩,fun e aP ag bo=>h.no e aP ag ((kB aP ag).2 bo)⟩
theorem wL(c:bu)(x:Int)(t:T)(z:Int):(c.know x t).ph z=if z=x then some t else c.ph z:=by
 simp only[bu.ph,bu.know,bu.shd,bu.shp,nB];by_cases h:z=x
 ·simp[h]
 ·simp only[if_neg h];exact ite_congr rfl (fun _=>rfl) fun _=>rfl
theorem Uj{c:bu}{ρ:Int→Int}(hi:lZ c ρ){x:Int}(af:ρ x=x)(ab:x∈cv c.up)(jt:c.ph x=none){t:T}(aK:t.kind≠1)(aF:∀w,t.occ w=true→w∈cv c.up):
  ∃N o,(∀n,N≤n→uS n x t c=some o)∧iZ c ρ (fun aP=>aP x=t.ap aP) o:=by
 have gF:ot (cv (c.know x t).up) (c.know x t).ph:=by
  intro z u br;rw[wL]at br;split at br
  ·rename_i e;cases br;subst e;exact⟨aK,aF,ab⟩
  ·exact hi.sh z u br
 have lh:∀aP,kc (c.know x t).ph ρ aP↔kc c.ph ρ aP∧aP x=t.ap aP:=by
  intro aP;constructor
  ·rintro⟨J,U⟩;refine⟨⟨J,fun z u br hu=>U z u br ?_⟩,U x t af (by rw[wL];simp)⟩;rw[wL];split
   ·rename_i e;subst e;rw[jt]at hu;cases hu
   ·exact hu
  ·rintro⟨⟨J,U⟩,ar⟩;refine⟨J,fun z u br hu=>?_⟩;rw[wL]at hu;split at hu
   ·rename_i e;subst e;cases hu;exact ar
   ·exact U z u br hu
 obtain⟨N,a,J,U,ar⟩:=Ha (x:=x) (c:=c.know x t) (t:=t) hi.ru gF aF;refine⟨N,(!a.found,a.c),fun n ay=>by simp[uS,J n ay],U.keys,U.rest,fun aL=>?_,fun aL aP ag he=>?_⟩
 ·simp only[Bool.not_eq_true']at aL;have afD:∀u,iY (c.know x t).ph ρ x u→¬mT (iY (c.know x t).ph ρ) u x:=by rintro u ⟨_,dO,w,a8,bF,rfl⟩ aJ;rw[wL,if_pos rfl]at a8;cases a8;have:=ar.2 ⟨w,bF,aJ⟩;rw[aL]at this;cases this
  obtain⟨k5,uJ⟩:=hi.sat
  have afS:=DQ (ph:=(c.know x t).ph) (ρ:=ρ) hi.ru.idem (x:=x) (r:=fun z=>(k5 z).size) (fun z u br he=>by refine Hw hi.sh uJ ?_;obtain⟨ak,dO,w,aE,bj⟩:=he;rw[wL,if_neg br]at aE;exact⟨ak,dO,w,aE,bj⟩) afD
  refine⟨ρ,⟨U.ru,?_,?_⟩,fun aP=>?_,.inr ?_⟩
  ·simp only[U.keys,U.ph];exact gF
  ·simp only[U.ph];exact afS
  ·simp only[U.ph];exact lh aP
  ·simp only[xd U];unfold iu;have ak:cv (c.know x t).up=cv c.up:=rfl;rw[ak];have:=Ff (V:=cv c.up) (v:=x) (p:=fun v=>decide (ρ v=v)&& !(c.ph v).isSome) (q:=fun v=>decide (ρ v=v)&& !((c.know x t).ph v).isSome) (fun z _ br=>by
    rw[wL]at br;split at br
    ·simp at br
    ·exact br) ab (by simp[af,jt]) (by simp[wL])
   omega
 ·simp only[Bool.not_eq_false']at aL;obtain⟨w,a8,bF⟩:=ar.1 aL;have fi:=(lh aP).2 ⟨ag,he⟩;have:=Hx gF fi bF;have ba:=(AD aP a8).2 aK;rw[←he]at ba;rw[←ag.1 w]at this;omega
def jf(ρ:Int→Int)(x y:Int)(v:Int):Int:=if ρ v=y then x else ρ v
section
variable {c:bu} {ρ:Int→Int} {x y:Int}
theorem qb(af:ρ x=x)(aM:ρ y=y)(hR:x≠y){z:Int}:jf ρ x y z=z↔ρ z=z∧z≠y:=by
 unfold jf;split
 ·rename_i e;constructor
  ·intro h;subst h;rw[af]at e;exact absurd e hR
  ·rintro⟨J,U⟩;rw[J]at e;exact absurd e U
 ·rename_i e;constructor
  ·intro h;exact⟨h,fun aE=>e (by rw[aE,aM])⟩
  ·exact fun h=>h.1
theorem jB.join(h:jB c.up ρ)(af:ρ x=x)(aM:ρ y=y)(hR:x<y)(C1:x∈cv c.up)(uT:y∈cv c.up):jB (c.join x y).up (jf ρ x y):=by
 have ab:cv (c.join x y).up=cv c.up:=CZ uT;refine⟨fun v u aF=>?_,fun v aF=>?_⟩
 ·rw[ab];have l9:c5 v (eP y x c.up)=some u:=aF;rw[nB]at l9;by_cases e:v=y
  ·subst e;rw[if_pos rfl]at l9;cases l9;have bn:=(h.mem C1).2;rw[af]at bn;refine⟨⟨bn,by omega,C1⟩,?_,⟨fun e=>?_,fun e=>by omega⟩⟩
   ·unfold jf;rw[af,aM,if_pos rfl,if_neg (by omega)]
   ·have:=((qb af aM (by omega)).1 e).2;exact absurd rfl this
  ·rw[if_neg e]at l9;obtain⟨bD,a2,a3⟩:=h.up v u l9;refine⟨bD,by unfold jf;rw[a2],?_⟩;rw[qb af aM (by omega),a3];exact⟨fun h=>h.1,fun h=>⟨h,e⟩⟩
 ·rw[ab]at aF;have:=h.no v aF;unfold jf;rw[this,if_neg fun e=>aF (by rw[e];exact uT)]
theorem al1{ph:Int→aZ T}(af:ρ x=x)(aM:ρ y=y)(hR:x≠y)(aP:Int→T):(kc ph (jf ρ x y) aP∧∀t,ph y=some t→aP x=t.ap aP)↔(kc ph ρ aP∧aP x=aP y):=by
 constructor
 ·rintro⟨⟨J,U⟩,ar⟩;have KG:aP y=aP x:=by have:=J y;simpa[jf,aM]using this
  refine⟨⟨fun v=>?_,fun z t br aK=>?_⟩,KG.symm⟩
  ·have:=J v;unfold jf at this;split at this
   ·rename_i e;rw[e,this,KG]
   ·exact this
  ·by_cases e:z=y
   ·subst e;rw[KG];exact ar t aK
   ·exact U z t ((qb af aM hR).2 ⟨br,e⟩) aK
 ·rintro⟨⟨J,U⟩,ar⟩;refine⟨⟨fun v=>?_,fun z t br aK=>U z t ((qb af aM hR).1 br).1 aK⟩,fun t aK=>by rw[ar];exact U y t aM aK⟩;unfold jf;split
  ·rename_i e;rw[J v,e,ar]
  ·exact J v
theorem alo{V:List Int}{ph:Int→aZ T}(gF:ot V ph)(af:ρ x=x)(aM:ρ y=y)(hR:x≠y){aP:Int→T}(h:kc ph ρ aP){z u:Int}(br:z≠x)(he:iY ph (jf ρ x y) z u):(if u=x then 0 else(aP u).size)<(if z=x then 0 else(aP z).size):=by
 obtain⟨J,t,w,U,ar,rfl⟩:=he;have aJ:=(qb af aM hR).1 J;rw[if_neg br];split
 ·exact T.size_pos _
 ·rename_i cF;have:jf ρ x y w=ρ w:=by
   unfold jf at cF⊢;split
   ·rename_i e;rw[if_pos e]at cF;exact absurd rfl cF
   ·rfl
  rw[this];exact Hw gF h ⟨aJ.1,t,w,U,ar,rfl⟩
theorem YB(af:ρ x=x)(aM:ρ y=y)(hR:x≠y)(uT:y∈cv c.up):iu (c.join x y) (jf ρ x y)<iu c ρ:=by have ab:cv (c.join x y).up=cv c.up:=CZ uT;have bG:(c.join x y).ph=c.ph:=rfl;unfold iu;rw[ab,bG];have J:=Ff (V:=cv c.up) (v:=y) (p:=fun v=>decide (ρ v=v)) (q:=fun v=>decide (jf ρ x y v=v)) (fun z _ br=>by simp only[e2]at br⊢;exact((qb af aM hR).1 br).1) uT (by simp[aM]) (by simp only[gI];exact fun h=>((qb af aM hR).1 h).2 rfl);have U:=Fe (V:=cv c.up) (p:=fun v=>decide (ρ v=v)&& !(c.ph v).isSome) (q:=fun v=>decide (jf ρ x y v=v)&& !(c.ph v).isSome) (fun z _ br=>by simp only[cC,e2]at br⊢;exact⟨((qb af aM hR).1 br.1).1,br.2⟩);omega
end
theorem AM{c:bu}{x:Int}(h:c.shd x=false):c.ph x=none:=by simp[bu.ph,h]
theorem AN{c:bu}{x:Int}(h:¬c.shd x=false):c.ph x=some (c.shp x):=by simp[bu.ph];simpa using h
theorem Rf{c:bu}{ρ:Int→Int}(hi:lZ c ρ){x y:Int}(af:ρ x=x)(aM:ρ y=y)(hR:x<y)(C1:x∈cv c.up)(uT:y∈cv c.up)
  (rec:∀(bL:bu) (ls:Int→Int),lZ bL ls→cv bL.up=cv c.up→iu bL ls<iu c ρ→∀a b:T,(∀w,a.occ w=true→w∈cv c.up)→(∀w,b.occ w=true→w∈cv c.up)→∃N o,(∀n,N≤n→gA n a b bL=some o)∧iZ bL ls (fun aP=>a.ap aP=b.ap aP) o):
  ∃N o,(∀n,N≤n→ry (gA n) n x y (c.join x y)=some o)∧iZ c ρ (fun aP=>aP x=aP y) o:=by
 have cF:x≠y:=by omega
 have ab:cv (c.join x y).up=cv c.up:=CZ uT;have bG:(c.join x y).ph=c.ph:=rfl;have l8:=hi.ru.join af aM hR C1 uT;have c3:=YB (c:=c) af aM cF uT;have gF:ot (cv (c.join x y).up) (c.join x y).ph:=by rw[ab,bG];exact hi.sh
 obtain⟨k5,uJ⟩:=hi.sat
 have FR:∀z u,z≠x→iY c.ph (jf ρ x y) z u→(fun z=>if z=x then 0 else(k5 z).size) u<(fun z=>if z=x then 0 else(k5 z).size) z:=fun z u br he=>alo hi.sh af aM cF uJ br he;have lh:=fun aP=>al1 (ph:=c.ph) af aM cF aP;have Tg:∀{cu:bu},iE (jf ρ x y) (c.join x y) cu→(∃aP,kc c.ph (jf ρ x y) aP)→c.ph y=none→iZ c ρ (fun aP=>aP x=aP y) (true,cu):=by intro cu k ag ay;refine⟨k.keys.trans ab,k.rest,fun _=>⟨jf ρ x y,⟨k.ru,by simp only[k.keys,k.ph];exact gF,by simp only[k.ph];exact ag⟩,fun aP=>?_,.inr (by simp only[xd k];exact c3)⟩,fun e=>by cases e⟩;simp only[k.ph,bG];rw[←lh aP];exact⟨fun h=>⟨h,fun t aK=>by rw[ay]at aK;cases aK⟩,fun h=>h.1⟩
 by_cases J:(c.join x y).shd y=false
 ·have S3:c.ph y=none:=AM J;by_cases U:(c.join x y).shd x=false
  ·have zV:c.ph x=none:=AM U;refine⟨0,(true,c.join x y),fun n _=>by simp only[ry,if_pos J,if_pos U],Tg (iE.refl l8) ?_ S3⟩;exact DQ l8.idem (x:=x) FR fun u ⟨_,t,w,q,_⟩=>by rw[zV]at q;cases q
  ·have nU:c.ph x=some ((c.join x y).shp x):=AN U;obtain⟨N,a,ak,aE,bj⟩:=Ha (x:=x) (c:=c.join x y) (t:=(c.join x y).shp x) l8 gF (by rw[ab];exact(hi.sh _ _ nU).2.1);refine⟨N,(!a.found,a.c),fun n ay=>by simp only[ry,if_pos J,if_neg U,ak n ay,oh],?_⟩;cases aL:a.found with
   |false=>refine Tg aE (DQ l8.idem (x:=x) FR fun u ⟨_,t,w,a8,bF,b0⟩ aJ=>?_) S3;rw[nU]at a8;cases a8;subst b0;have:=bj.2 ⟨w,bF,aJ⟩;rw[aL]at this;cases this
   |true=>refine⟨aE.keys.trans ab,aE.rest,(fun e=>by cases e),fun _ aP ag he=>?_⟩;obtain⟨w,a8,bF⟩:=bj.1 aL;have fi:=((lh aP).2 ⟨ag,he⟩).1;have ar:=Hx hi.sh fi bF;have ba:=(AD aP a8).2 (hi.sh _ _ nU).1;rw[←fi.2 x _ ((qb af aM cF).2 ⟨af,cF⟩) nU]at ba;rw[←fi.1 w]at ar;omega
 ·have qU:c.ph y=some ((c.join x y).shp y):=AN J;by_cases U:(c.join x y).shd x=false
  ·have zV:c.ph x=none:=AM U;have ie:lZ (c.join x y) (jf ρ x y):=⟨l8,gF,DQ l8.idem (x:=x) FR fun u ⟨_,t,w,q,_⟩=>by rw[bG,zV]at q;cases q⟩;obtain⟨N,o,ak,aE⟩:=Uj ie (x:=x) ((qb af aM cF).2 ⟨af,cF⟩) (by rw[ab];exact C1) zV (t:=(c.join x y).shp y) (hi.sh _ _ qU).1 (by rw[ab];exact(hi.sh _ _ qU).2.1);refine⟨N,o,fun n ay=>by simp only[ry,if_neg J,if_pos U,ak n ay],aE.keys.trans ab,aE.rest,fun aL=>?_,fun aL aP ag he=>?_⟩
   ·obtain⟨ρ',g1,g2,g3⟩:=aE.yes aL;refine⟨ρ',g1,fun aP=>?_,.inr ?_⟩
    ·rw[g2 aP,←lh aP];refine and_congr_right fun _=>⟨fun h t aK=>by rw[qU]at aK;cases aK;exact h,fun h=>h _ qU⟩
    ·rcases g3 with⟨rfl,g3⟩|g3
     ·have:iu o.2 (jf ρ x y)=iu (c.join x y) (jf ρ x y):=by unfold iu;rw[aE.keys,g3]
      omega
     ·omega
   ·obtain⟨s1,s2⟩:=(lh aP).2 ⟨ag,he⟩;exact aE.no aL aP s1 (s2 _ qU)
  ·have nU:c.ph x=some ((c.join x y).shp x):=AN U;obtain⟨hI,a,ak,aE,bj⟩:=Ha (x:=x) (c:=c.join x y) (t:=(c.join x y).shp y) l8 gF (by rw[ab];exact(hi.sh _ _ qU).2.1);cases aL:a.found with
   |true=>refine⟨hI,(false,a.c),fun n ay=>by simp only[ry,if_neg J,if_neg U,ak n ay,k7,aL,if_true],aE.keys.trans ab,aE.rest,(fun e=>by cases e),fun _ aP ag he=>?_⟩;obtain⟨w,a8,bF⟩:=bj.1 aL;obtain⟨fi,pD⟩:=(lh aP).2 ⟨ag,he⟩;have ar:=Hx hi.sh fi bF;have ba:=(AD aP a8).2 (hi.sh _ _ qU).1;rw[←pD _ qU]at ba;rw[←fi.1 w]at ar;omega
   |false=>
    have Tj:a.c.shp x=(c.join x y).shp x:=aE.shp x;obtain⟨ja,b,f1,f2,f3⟩:=Ha (x:=x) (c:=a.c) (t:=(c.join x y).shp x) aE.ru (by rw[aE.keys,aE.ph];exact gF) (by rw[aE.keys,ab];exact(hi.sh _ _ nU).2.1);have e6:=aE.trans f2;cases a7:b.found with
    |true=>refine⟨max hI ja,(false,b.c),fun n ay=>by simp only[ry,if_neg J,if_neg U,ak n (by omega),k7,aL,Tj,f1 n (by omega),a7,if_true,gX,if_false],e6.keys.trans ab,e6.rest,(fun e=>by cases e),fun _ aP ag he=>?_⟩;obtain⟨w,a8,bF⟩:=f3.1 a7;obtain⟨fi,_⟩:=(lh aP).2 ⟨ag,he⟩;rw[aE.ph]at bF;have ar:=Hx hi.sh fi bF;have ba:=(AD aP a8).2 (hi.sh _ _ nU).1;rw[←fi.2 x _ ((qb af aM cF).2 ⟨af,cF⟩) nU]at ba;rw[←fi.1 w]at ar;omega
    |false=>
     have zN:lZ b.c (jf ρ x y):=by refine⟨e6.ru,by rw[e6.keys,e6.ph];exact gF,?_⟩;rw[e6.ph];refine DQ l8.idem (x:=x) FR fun u ⟨_,t,w,a8,bF,b0⟩ aJ=>?_;rw[bG,nU]at a8;cases a8;subst b0;have:=f3.2 ⟨w,bF,by rw[aE.ph];exact aJ⟩;rw[a7]at this;cases this
     obtain⟨y5,o,g1,g2⟩:=rec b.c (jf ρ x y) zN (e6.keys.trans ab) (by rw[xd e6];exact c3) ((c.join x y).shp x) ((c.join x y).shp y) (hi.sh _ _ nU).2.1 (hi.sh _ _ qU).2.1;refine⟨max (max hI ja) y5,o,fun n ay=>?_,g2.keys.trans (e6.keys.trans ab),?_,fun cw=>?_,fun cw aP ag he=>?_⟩
     ·simp only[ry,if_neg J,if_neg U,ak n (by omega),k7,aL,Tj,f1 n (by omega),a7,gX,if_false,e6.shp];exact g1 n (by omega)
     ·rw[g2.rest.1,g2.rest.2.1,g2.rest.2.2];exact e6.rest
     ·obtain⟨ρ',a8,bF,b0⟩:=g2.yes cw;refine⟨ρ',a8,fun aP=>?_,.inr ?_⟩
      ·rw[bF aP,e6.ph,bG,←lh aP];refine and_congr_right fun h=>?_;have:=h.2 x _ ((qb af aM cF).2 ⟨af,cF⟩) nU;rw[←this];exact⟨fun h t aK=>by rw[qU]at aK;cases aK;exact h,fun h=>h _ qU⟩
      ·have:iu b.c (jf ρ x y)<iu c ρ:=by rw[xd e6];exact c3
       rcases b0 with⟨rfl,b0⟩|b0
       ·have:iu o.2 (jf ρ x y)=iu b.c (jf ρ x y):=by unfold iu;rw[g2.keys,b0]
        omega
       ·omega
     ·obtain⟨s1,s2⟩:=(lh aP).2 ⟨ag,he⟩;refine g2.no cw aP (by rw[e6.ph];exact s1) ?_;have:=s1.2 x _ ((qb af aM cF).2 ⟨af,cF⟩) nU;rw[←this];exact s2 _ qU
def ud:T→T→Nat
 | .var _,_=>1
 |_,.var _=>2
 |_,_=>0
theorem aar(K:Nat):∀(m:Nat) (c:bu) (ρ:Int→Int) (a b:T) (k5:Int→T),lZ c ρ→kc c.ph ρ k5→(∀w,a.occ w=true→w∈cv c.up)→(∀w,b.occ w=true→w∈cv c.up)→iu c ρ=K→((a.ap k5).size+(b.ap k5).size)*3+ud a b=m→
  ∃N o,(∀n,N≤n→gA n a b c=some o)∧iZ c ρ (fun aP=>a.ap aP=b.ap aP) o:=by
 induction K using Nat.strongRecOn with
 |ind K agh=>
 have Ts:∀(bL:bu) (ls:Int→Int),lZ bL ls→iu bL ls<K→∀a b:T,(∀w,a.occ w=true→w∈cv bL.up)→(∀w,b.occ w=true→w∈cv bL.up)→∃N o,(∀n,N≤n→gA n a b bL=some o)∧iZ bL ls (fun aP=>a.ap aP=b.ap aP) o:=by
  intro bL ls J U a b bz ad;obtain⟨aP,hr⟩:=J.sat
  exact agh _ U _ bL ls a b aP J hr bz ad rfl rfl
 intro m;induction m using Nat.strongRecOn with
 |ind m Af=>
 intro c ρ a b k5 hi uJ bz ad c3 hm;have afm:∀{a b:T},(∀n,gA (n+1) a b c=some (decide (a=b),c))→(∀aP,a.ap aP=a)→(∀aP,b.ap aP=b)→∃N o,(∀n,N≤n→gA n a b c=some o)∧iZ c ρ (fun aP=>a.ap aP=b.ap aP) o:=by
  intro a b J U ar;refine⟨1,(decide (a=b),c),fun n ay=>?_,rfl,⟨rfl,rfl,rfl⟩,fun h=>?_,fun h aP _ he=>?_⟩
  ·obtain⟨n',rfl⟩:∃n',n=n'+1:=⟨n-1,by omega⟩;exact J n'
  ·simp only[e2]at h;subst h;exact⟨ρ,hi,fun aP=>⟨fun h=>⟨h,rfl⟩,fun h=>h.1⟩,.inl ⟨rfl,rfl⟩⟩
  ·simp only[gI]at h;rw[U,ar]at he;exact h he
 have Sv:∀{a b:T},(∀n,gA (n+1) a b c=some (decide (a=b),c))→(∀aP,a.ap aP≠b.ap aP)→a≠b→∃N o,(∀n,N≤n→gA n a b c=some o)∧iZ c ρ (fun aP=>a.ap aP=b.ap aP) o:=by intro a b J U ar;refine⟨1,(false,c),fun n ay=>?_,rfl,⟨rfl,rfl,rfl⟩,(fun h=>by cases h),fun _ aP _ he=>U aP he⟩;obtain⟨n',rfl⟩:∃n',n=n'+1:=⟨n-1,by omega⟩;rw[J n',iB ar]
 have wi:∀(i:Int) (b:T),b.kind≠1→(∀n,gA (n+1) (.var i) b c=(rt c i).bind fun p=>if p.2.shd p.1=false then uS n p.1 b p.2 else gA n (p.2.shp p.1) b p.2)→i∈cv c.up→(∀w,b.occ w=true→w∈cv c.up)→((k5 i).size+(b.ap k5).size)*3<m→∃N o,(∀n,N≤n→gA n (.var i) b c=some o)∧iZ c ρ (fun aP=>aP i=b.ap aP) o:=by
  intro i b oD Sy wv ad bE;obtain⟨bL,ak,aU⟩:=tu hi.ru wv;have ie:=hi.sm aU;by_cases ag:bL.shd (ρ i)=false
  ·obtain⟨N,o,aE,dt⟩:=Uj ie (x:=ρ i) (hi.ru.idem i) (by rw[aU.keys];exact(hi.ru.mem wv).1) (AM ag) oD (by rw[aU.keys];exact ad);refine⟨N+1,o,fun n ay=>?_,iZ.sm aU (iZ.congr (fun aP h=>?_) dt)⟩
   ·obtain⟨n',rfl⟩:∃n',n=n'+1:=⟨n-1,by omega⟩;rw[Sy,ak];simp only[k7,if_pos ag];exact aE n' (by omega)
   ·rw[←h.1 i]
  ·have nU:bL.ph (ρ i)=some (bL.shp (ρ i)):=AN ag;have lh:∀aP,kc bL.ph ρ aP→aP i=(bL.shp (ρ i)).ap aP:=fun aP h=>by rw[h.1 i];exact h.2 _ _ (hi.ru.idem i) nU
   have hq:=(ie.sh _ _ nU).1;have aeY:ud (bL.shp (ρ i)) b=0:=by cases e:bL.shp (ρ i)<;>cases b<;>simp_all[ud,T.kind]
   have Tq:kc bL.ph ρ k5:=by rw[aU.ph];exact uJ
   obtain⟨N,o,aE,dt⟩:=Af (((bL.shp (ρ i)).ap k5).size*3+(b.ap k5).size*3) (by rw[←lh k5 Tq];omega) bL ρ (bL.shp (ρ i)) b k5 ie Tq (ie.sh _ _ nU).2.1 (by rw[aU.keys];exact ad) (by rw[xd aU];exact c3) (by rw[aeY];omega);refine⟨N+1,o,fun n ay=>?_,iZ.sm aU (iZ.congr (fun aP h=>?_) dt)⟩
   ·obtain⟨n',rfl⟩:∃n',n=n'+1:=⟨n-1,by omega⟩;rw[Sy,ak];simp only[k7,if_neg ag];exact aE n' (by omega)
   ·rw[lh aP h]
 have CO:∀(i j:Int),i∈cv c.up→j∈cv c.up→∃N o,(∀n,N≤n→gA n (.var i) (.var j) c=some o)∧iZ c ρ (fun aP=>aP i=aP j) o:=by
  intro i j wv Gh;obtain⟨bL,ak,aU⟩:=tu hi.ru wv;obtain⟨cp,aE,bC⟩:=tu aU.ru (by rw[aU.keys];exact Gh:j∈cv bL.up);have tc:=aU.trans bC;have hC:=hi.sm tc;have vU:ρ i∈cv cp.up:=by rw[tc.keys];exact(hi.ru.mem wv).1
  have SL:ρ j∈cv cp.up:=by rw[tc.keys];exact(hi.ru.mem Gh).1
  have v8:∀(bL:bu) (ls:Int→Int),lZ bL ls→cv bL.up=cv cp.up→iu bL ls<iu cp ρ→∀a b:T,(∀w,a.occ w=true→w∈cv cp.up)→(∀w,b.occ w=true→w∈cv cp.up)→∃N o,(∀n,N≤n→gA n a b bL=some o)∧iZ bL ls (fun aP=>a.ap aP=b.ap aP) o:=fun dc ρ3 J U ar a b bz ad=>Ts dc ρ3 J (by rw[xd tc,c3]at ar;exact ar) a b (by rw[U];exact bz) (by rw[U];exact ad);rcases Int.lt_trichotomy (ρ i) (ρ j)with h|h|h
  ·obtain⟨N,o,bj,iR⟩:=Rf hC (hi.ru.idem i) (hi.ru.idem j) h vU SL v8;refine⟨N+1,o,fun n ay=>?_,iZ.sm tc (iZ.congr (fun aP h=>?_) iR)⟩
   ·obtain⟨n',rfl⟩:∃n',n=n'+1:=⟨n-1,by omega⟩;simp only[gA,ak,aE,k7];rw[if_neg (by omega),if_neg (by omega)];exact bj n' (by omega)
   ·rw[h.1 i,h.1 j]
  ·refine⟨1,(true,cp),fun n ay=>?_,tc.keys,tc.rest,fun _=>⟨ρ,hC,fun aP=>?_,.inl ⟨rfl,tc.ph⟩⟩,fun e=>by cases e⟩
   ·obtain⟨n',rfl⟩:∃n',n=n'+1:=⟨n-1,by omega⟩;simp only[gA,ak,aE,k7,if_pos h]
   ·simp only[tc.ph];exact⟨fun ag=>⟨ag,by rw[ag.1 i,ag.1 j,h]⟩,fun ag=>ag.1⟩
  ·obtain⟨N,o,bj,iR⟩:=Rf hC (hi.ru.idem j) (hi.ru.idem i) h SL vU v8;refine⟨N+1,o,fun n ay=>?_,iZ.sm tc (iZ.congr (fun aP h=>?_) iR)⟩
   ·obtain⟨n',rfl⟩:∃n',n=n'+1:=⟨n-1,by omega⟩;simp only[gA,ak,aE,k7];rw[if_neg (by omega),if_pos h];exact bj n' (by omega)
   ·rw[h.1 i,h.1 j];exact⟨Eq.symm,Eq.symm⟩
 have z7:∀(a:T) (j:Int),a.kind≠1→(∀n,gA (n+1) a (.var j) c=gA n (.var j) a c)→(∀n,gA (n+1) (.var j) a c=(rt c j).bind fun p=>if p.2.shd p.1=false then uS n p.1 a p.2 else gA n (p.2.shp p.1) a p.2)→j∈cv c.up→(∀w,a.occ w=true→w∈cv c.up)→((k5 j).size+(a.ap k5).size)*3<m→∃N o,(∀n,N≤n→gA n a (.var j) c=some o)∧iZ c ρ (fun aP=>a.ap aP=aP j) o:=by intro a j J U ar Gh bz bE;obtain⟨N,o,ak,cP⟩:=wi j a J ar Gh bz bE;refine⟨N+1,o,fun n ay=>?_,iZ.congr (fun aP _=>⟨Eq.symm,Eq.symm⟩) cP⟩;obtain⟨n',rfl⟩:∃n',n=n'+1:=⟨n-1,by omega⟩;rw[U];exact ak n' (by omega)
 cases a with
 |var i=>
  have wv:i∈cv c.up:=bz i (by simp[T.occ]);cases b with
  |var j=>exact CO i j wv (ad j (by simp[T.occ]))
  |_=>exact wi i _ (by simp[T.kind]) (fun n=>rfl) wv ad (by simp only[T.ap,ud]at hm⊢;omega)
 |pair bD a2=>
  cases b with
  |var j=>exact z7 _ j (by simp[T.kind]) (fun n=>rfl) (fun n=>rfl) (ad j (by simp[T.occ])) bz (by simp only[T.ap,ud]at hm⊢;omega)
  |pair cl b8=>
   have sT:∀p q:T,ud p q≤2:=fun p q=>by cases p<;>cases q<;>simp[ud]
   have lb:∀w,bD.occ w=true→w∈cv c.up:=fun w hw=>bz w (by simp[T.occ,hw]);have p1:∀w,a2.occ w=true→w∈cv c.up:=fun w hw=>bz w (by simp[T.occ,hw]);have lB:∀w,cl.occ w=true→w∈cv c.up:=fun w hw=>ad w (by simp[T.occ,hw]);have pA:∀w,b8.occ w=true→w∈cv c.up:=fun w hw=>ad w (by simp[T.occ,hw]);simp only[T.ap,T.size,ud]at hm;have f1:=sT bD cl;have f2:=sT a2 b8;obtain⟨hI,gU,ak,cP⟩:=Af _ (by rw[←hm];omega) c ρ bD cl k5 hi uJ lb lB c3 rfl;obtain⟨ahY,bL⟩:=gU;cases ahY with
   |false=>refine⟨hI+1,(false,bL),fun n ay=>?_,cP.keys,cP.rest,(fun e=>by cases e),fun _ aP ag he=>cP.no rfl aP ag (by simp only[T.ap,T.pair.injEq]at he;exact he.1)⟩;obtain⟨n',rfl⟩:∃n',n=n'+1:=⟨n-1,by omega⟩;simp only[gA,ak n' (by omega),k7,gX,if_false]
   |true=>
    obtain⟨ls,a8,bF,b0⟩:=cP.yes rfl;simp only at a8 bF b0;have xT:cv bL.up=cv c.up:=cP.keys;have CC:∃ja gM,(∀n,ja≤n→gA n a2 b8 bL=some gM)∧iZ bL ls (fun aP=>a2.ap aP=b8.ap aP) gM:=by
     rcases b0 with⟨rfl,b0⟩|b0
     ·exact Af _ (by rw[←hm];omega) bL ls a2 b8 k5 a8 (by rw[b0];exact uJ) (by rw[xT];exact p1) (by rw[xT];exact pA) (by unfold iu;rw[xT,b0];exact c3) rfl
     ·exact Ts bL ls a8 (by omega) a2 b8 (by rw[xT];exact p1) (by rw[xT];exact pA)
    obtain⟨ja,gM,aE,dt⟩:=CC;refine⟨max hI ja+1,gM,fun n ay=>?_,dt.keys.trans xT,?_,fun aL=>?_,fun aL aP ag he=>?_⟩
    ·obtain⟨n',rfl⟩:∃n',n=n'+1:=⟨n-1,by omega⟩;simp only[gA,ak n' (by omega),k7,if_true];exact aE n' (by omega)
    ·rw[dt.rest.1,dt.rest.2.1,dt.rest.2.2];exact cP.rest
    ·obtain⟨ρ2,s1,s2,s3⟩:=dt.yes aL;refine⟨ρ2,s1,fun aP=>?_,?_⟩
     ·rw[s2 aP,bF aP];simp only[T.ap,T.pair.injEq,and_assoc]
     ·rcases b0 with⟨rfl,b0⟩|b0
      ·rcases s3 with⟨rfl,s3⟩|s3
       ·exact .inl ⟨rfl,s3.trans b0⟩
       ·have:iu bL ls=iu c ls:=by unfold iu;rw[xT,b0]
        exact .inr (by omega)
      ·rcases s3 with⟨rfl,s3⟩|s3
       ·have:iu gM.2 ρ2=iu bL ρ2:=by unfold iu;rw[dt.keys,s3]
        exact .inr (by omega)
       ·exact .inr (by omega)
    ·simp only[T.ap,T.pair.injEq]at he;exact dt.no aL aP ((bF aP).2 ⟨ag,he.1⟩) he.2
  |_=>exact Sv (fun n=>rfl) (fun aP=>by simp[T.ap]) (by simp)
 |_=>
  cases b with
  |var j=>exact z7 _ j (by simp[T.kind]) (fun n=>rfl) (fun n=>rfl) (ad j (by simp[T.occ])) bz (by simp only[T.ap,ud]at hm⊢;omega)
  |_=>first|exact afm (fun n=>rfl) (fun aP=>rfl) (fun aP=>rfl)|exact Sv (fun n=>rfl) (fun aP=>by simp[T.ap]) (by simp)
end Go.Pv
namespace Go.Pv
open Go
def yY(rec:Int→bu→aZ (Bool×bu))(v:Int)(a:bu×Bool):aZ (bu×Bool):=if a.2=true then(rt a.1 v).bind fun p=>(rec p.1 p.2).map fun q=>(q.2,q.1)else some a
def yM(v:Int)(c:bu):aZ (Int×bu):=(rt c v).map fun p=>(p.2.sz p.1,p.2)
def bu.grey(c:bu)(x:Int):bu:={c with color:=eP x 1 c.color,size:=eP x 1 c.size}
def bu.black(c:bu)(x:Int):bu:={c with color:=eP x 2 c.color}
def qo:Nat→Int→bu→aZ (Bool×bu)
 |0,_,_=>none
 |n+1,x,c=>if c.col x=2 then some (true,c)else if c.col x=1 then some (false,c)else
   if(c.grey x).shd x=false then some (true,(c.grey x).black x)else
   (((c.grey x).shp x).foldO (yY (qo n)) (c.grey x,true)).bind fun a=>if a.2=false then some (false,a.1)else
   (((a.1.shp x).sizeO yM a.1).map fun p=>(true,{p.2 with size:=eP x p.1 p.2.size}.black x))
def Bm(rec:Int→bu→aZ (T×bu))(v:Int)(c:bu):aZ (T×bu):=(rt c v).bind fun p=>rec p.1 p.2
def qn:Nat→Int→bu→aZ (T×bu)
 |0,_,_=>none
 |n+1,x,c=>match c5 x c.full with
  |some t=>some (t,c)
  |none=>if c.shd x=false then some (.var x,{c with full:=eP x (.var x) c.full})else
   ((c.shp x).mapO (Bm (qn n)) c).map fun p=>(p.1,{p.2 with full:=eP x p.1 p.2.full})
def se(n:Nat):List Int→bu→List Int→aZ (aZ (List Int)×bu)
 |[],c,out=>some (some out,c)
 |v::aV,c,out=>(rt c v).bind fun p=>(qo n p.1 p.2).bind fun q=>if q.1=false then some (none,q.2)else
   if p.1=v∧q.2.shd p.1=false then se n aV q.2 out else
   if 5000<q.2.sz p.1∨400<out.length+1 then some (none,q.2)else se n aV q.2 (out++[v])
def yN(n:Nat):List Int→bu→aZ (List al×bu)
 |[],c=>some ([],c)
 |v::aV,c=>(rt c v).bind fun p=>(qn n p.1 p.2).bind fun q=>(yN n aV q.2).map fun r=>(⟨v,q.1⟩::r.1,r.2)
def DU(n:Nat)(aV:List Int)(c:bu):aZ (aZ (List al)):=(se n aV c []).bind fun a=>match a.1 with
 |none=>some none
 |some out=>(yN n out a.2).map fun r=>some r.1
def pX(n:Nat):List (T×T)→bu→aZ (Bool×bu)
 |[],c=>some (true,c)
 |e::es,c=>(Ar e.1 c).bind fun bL=>(Ar e.2 bL).bind fun cp=>(gA n e.1 e.2 cp).bind fun p=>if p.1=true then pX n es p.2 else some (false,p.2)
theorem lZ.rank{c:bu}{ρ:Int→Int}(h:lZ c ρ):∃r:Int→Nat,∀z u,iY c.ph ρ z u→r u<r z:=by
 obtain⟨aP,hr⟩:=h.sat
 exact⟨fun z=>(aP z).size,fun z u he=>Hw h.sh hr he⟩
structure tO (V:List Int) (ph:Int→aZ T) (ρ:Int→Int) (c:bu):Prop where
 ru:jB c.up ρ
 keys:cv c.up=V
 ph:c.ph=ph
theorem tO.sm{V:List Int}{ph:Int→aZ T}{ρ:Int→Int}{c cu:bu}(h:tO V ph ρ c)(k:iE ρ c cu):tO V ph ρ cu:=⟨k.ru,k.keys.trans h.keys,k.ph.trans h.ph⟩
def cut(n:Nat):Int:=if 5001<(n:Int)then 5001 else n
section
variable {V:List Int} {ph:Int→aZ T} {ρ:Int→Int} {r:Int→Nat}
theorem alR(Eg:Int→T):∀(t:T) (c:bu),tO V ph ρ c→(∀w,t.occ w=true→w∈V∧c.sz (ρ w)=cut (Eg w).size)→∃cu,t.sizeO yM c=some (cut (t.ap Eg).size,cu)∧iE ρ c cu:=by
 intro t;induction t with
 |var v=>
  intro c h aK;obtain⟨aF,br⟩:=aK v (by simp[T.occ]);obtain⟨bL,J,U⟩:=tu h.ru (by rw[h.keys];exact aF:v∈cv c.up);refine⟨bL,?_,U⟩;have:bL.sz (ρ v)=cut (Eg v).size:=by rw[←br,U.eq];rfl
  simp only[T.sizeO,yM,J,oh,this,T.ap,dL,jy,and_true];unfold cut;split<;>omega
 |pair a b dX dY=>
  intro c h aK;obtain⟨bL,J,aU⟩:=dX c h fun w hw=>aK w (by simp[T.occ,hw]);obtain⟨cp,U,bC⟩:=dY bL (h.sm aU) fun w hw=>⟨(aK w (by simp[T.occ,hw])).1,by rw[←(aK w (by simp[T.occ,hw])).2,aU.eq];rfl⟩;have ad:=T.size_pos (b.ap Eg);simp only[T.sizeO,J,k7,T.ap,T.size];by_cases au:5000<cut (a.ap Eg).size
  ·rw[if_pos au];refine⟨bL,?_,aU⟩;simp only[dL,jy,and_true];unfold cut at au⊢;split at au<;>split<;>(try split)<;>omega
  ·rw[if_neg au,U];refine⟨cp,?_,aU.trans bC⟩;simp only[oh,dL,jy,and_true];unfold cut at au⊢;split at au<;>(repeat' split)<;>omega
 |_=>intro c h aK;exact⟨c,by simp[T.sizeO,T.ap,T.size,cut],iE.refl h.ru⟩
structure qB (V:List Int) (ph:Int→aZ T) (ρ:Int→Int) (r:Int→Nat) (d:Nat) (c:bu):Prop where
 fin:tO V ph ρ c
 col:∀z,r z<d→c.col z=0∨(c.col z=2∧c.sz z=cut (gR ph ρ r z).size)
structure mW (ph:Int→aZ T) (ρ:Int→Int) (r:Int→Nat) (d:Nat) (c cu:bu):Prop where
 full:cu.full=c.full
 hi:∀z,d≤r z→cu.col z=c.col z∧cu.sz z=c.sz z
 lo:∀z,c.col z=2→cu.col z=2∧cu.sz z=c.sz z
theorem mW.refl{c:bu}{d:Nat}:mW ph ρ r d c c:=⟨rfl,fun _ _=>⟨rfl,rfl⟩,fun _ h=>⟨h,rfl⟩⟩
theorem mW.trans{a b c:bu}{d:Nat}(h:mW ph ρ r d a b)(k:mW ph ρ r d b c):mW ph ρ r d a c:=⟨k.full.trans h.full,fun z br=>⟨(k.hi z br).1.trans (h.hi z br).1,(k.hi z br).2.trans (h.hi z br).2⟩,fun z br=>⟨(k.lo z (h.lo z br).1).1,(k.lo z (h.lo z br).1).2.trans (h.lo z br).2⟩⟩
theorem mW.mono{a b:bu}{d cg:Nat}(aQ:d≤cg)(h:mW ph ρ r d a b):mW ph ρ r cg a b:=⟨h.full,fun z br=>h.hi z (by omega),h.lo⟩
theorem mW.sm{c cu:bu}{d:Nat}(k:iE ρ c cu):mW ph ρ r d c cu:=by
 have ak:∀z,cu.col z=c.col z:=fun z=>by rw[k.eq];rfl
 have aE:∀z,cu.sz z=c.sz z:=fun z=>by rw[k.eq];rfl
 exact⟨k.rest.2.2,fun z _=>⟨ak z,aE z⟩,fun z h=>⟨by rw[ak];exact h,aE z⟩⟩
theorem qB.sm{c cu:bu}{d:Nat}(h:qB V ph ρ r d c)(k:iE ρ c cu):qB V ph ρ r d cu:=by
 have ak:∀z,cu.col z=c.col z:=fun z=>by rw[k.eq];rfl
 have aE:∀z,cu.sz z=c.sz z:=fun z=>by rw[k.eq];rfl
 exact⟨h.fin.sm k,fun z br=>by rw[ak,aE];exact h.col z br⟩
theorem aoa(gF:ot V ph)(eT:∀v,ρ (ρ v)=ρ v)(aJ:∀z u,iY ph ρ z u→r u<r z)(d:Nat):∀(x:Int) (c:bu),r x<d→ρ x=x→x∈V→qB V ph ρ r d c→
  ∃N cu,(∀n,N≤n→qo n x c=some (true,cu))∧qB V ph ρ r d cu∧mW ph ρ r (r x+1) c cu∧cu.col x=2∧cu.sz x=cut (gR ph ρ r x).size:=by
 induction d using Nat.strongRecOn with
 |ind d bO=>
 intro x c aQ af jq hw;rcases hw.col x aQ with bn|⟨U,ar⟩;rotate_left
 ·refine⟨1,c,fun n ay=>?_,hw,mW.refl,U,ar⟩;obtain⟨n',rfl⟩:∃n',n=n'+1:=⟨n-1,by omega⟩;simp only[qo,if_pos U]
 have xG:∀z,(c.grey x).col z=if z=x then 1 else c.col z:=fun z=>by simp only[bu.grey,bu.col,nB];split<;>rfl
 have B4:∀z,(c.grey x).sz z=if z=x then 1 else c.sz z:=fun z=>by simp only[bu.grey,bu.sz,nB];split<;>rfl
 have zy:tO V ph ρ (c.grey x):=⟨hw.fin.ru,hw.fin.keys,hw.fin.ph⟩;have af9:qB V ph ρ r (r x) (c.grey x):=⟨zy,fun z br=>by
  have cF:z≠x:=fun e=>by subst e;omega
  rw[xG,B4,if_neg cF,if_neg cF];exact hw.col z (by omega)⟩
 have x1:¬c.col x=2:=by omega
 have nk:¬c.col x=1:=by omega
 have fb:∀(e:bu) (z:Int),(e.black x).col z=(if z=x then 2 else e.col z):=fun e z=>by simp only[bu.black,bu.col,nB];split<;>rfl
 by_cases ag:(c.grey x).shd x=false
 ·have jt:ph x=none:=by rw[←zy.ph];exact AM ag
  have a7:gR ph ρ r x= .var x:=by rw[B3 (by rw[af];exact jt),af]
  have ee:∀z,((c.grey x).black x).sz z=if z=x then 1 else c.sz z:=B4
  refine⟨1,(c.grey x).black x,fun n ay=>?_,⟨⟨zy.ru,zy.keys,zy.ph⟩,fun z br=>?_⟩,⟨rfl,fun z br=>?_,fun z br=>?_⟩,?_,?_⟩
  ·obtain⟨n',rfl⟩:∃n',n=n'+1:=⟨n-1,by omega⟩;simp only[qo,if_neg x1,if_neg nk,if_pos ag]
  ·rw[fb,ee,xG];by_cases e:z=x
   ·subst e;simp only[if_true,a7];exact .inr ⟨trivial,by simp[T.size,cut]⟩
   ·simp only[if_neg e];exact hw.col z br
  ·have e:z≠x:=fun e=>by subst e;omega
   rw[fb,ee,xG];simp only[if_neg e];exact⟨trivial,trivial⟩
  ·have e:z≠x:=fun e=>by subst e;omega
   rw[fb,ee,xG];simp only[if_neg e];exact⟨br,trivial⟩
  ·rw[fb,if_pos rfl]
  ·rw[ee,if_pos rfl,a7];simp[T.size,cut]
 ·have jt:ph x=some ((c.grey x).shp x):=by rw[←zy.ph];exact AN ag
  obtain⟨g1,g2,g3⟩:=gF _ _ jt;have ae0:∀(t:T) (e:bu),(∀w,t.occ w=true→((c.grey x).shp x).occ w=true)→qB V ph ρ r (r x) e→∃N fy,(∀n,N≤n→t.foldO (yY (qo n)) (e,true)=some (fy,true))∧qB V ph ρ r (r x) fy∧mW ph ρ r (r x) e fy∧∀w,t.occ w=true→fy.col (ρ w)=2∧fy.sz (ρ w)=cut (gR ph ρ r w).size:=by
   intro t;induction t with
   |var v=>intro e nn he;have aF:=g2 v (nn v (by simp[T.occ]));have wa:r (ρ v)<r x:=aJ x (ρ v) ⟨af,_,v,jt,nn v (by simp[T.occ]),rfl⟩;obtain⟨ak,a8,aU⟩:=tu he.fin.ru (by rw[he.fin.keys];exact aF:v∈cv e.up);obtain⟨N,aE,bF,dv,dt,cp,s2⟩:=bO (r x) aQ (ρ v) ak wa (eT v) (by rw[←he.fin.keys];exact(he.fin.ru.mem (by rw[he.fin.keys];exact aF)).1) (he.sm aU);refine⟨N,aE,fun n ay=>by simp[T.foldO,yY,a8,bF n ay],dv,(mW.sm aU).trans (dt.mono (by omega)),fun w hw=>?_⟩;simp[T.occ]at hw;subst hw;exact⟨cp,by rw[s2,←zz eT]⟩
   |pair a b dX dY=>
    intro e nn he;obtain⟨hI,ak,a8,eg,cP,s1⟩:=dX e (fun w hw=>nn w (by simp[T.occ,hw])) he;obtain⟨ja,aE,bF,dv,dt,s2⟩:=dY ak (fun w hw=>nn w (by simp[T.occ,hw])) eg;refine⟨max hI ja,aE,fun n ay=>by simp only[T.foldO];rw[a8 n (by omega)];exact bF n (by omega),dv,cP.trans dt,fun w hw=>?_⟩;simp only[T.occ,lX]at hw;rcases hw with hw|hw
    ·obtain⟨k4,z2⟩:=s1 w hw;exact⟨(dt.lo _ k4).1,by rw[(dt.lo _ k4).2];exact z2⟩
    ·exact s2 w hw
   |_=>intro e _ he;exact⟨0,e,fun n _=>rfl,he,mW.refl,fun w hw=>by simp[T.occ]at hw⟩
  obtain⟨N,e,a8,eg,cP,s1⟩:=ae0 ((c.grey x).shp x) (c.grey x) (fun w h=>h) af9;have afT:e.shp x=(c.grey x).shp x:=by
   have J:e.ph x=some ((c.grey x).shp x):=by rw[eg.fin.ph];exact jt
   unfold bu.ph at J;split at J
   ·exact eE J
   ·cases J
  obtain⟨aE,bF,bC⟩:=alR (V:=V) (ph:=ph) (ρ:=ρ) (gR ph ρ r) ((c.grey x).shp x) e eg.fin (fun w hw=>⟨g2 w hw,(s1 w hw).2⟩);have mB:gR ph ρ r x=((c.grey x).shp x).ap (gR ph ρ r):=zA eT aJ (by rw[af];exact jt);have FL:=cP.trans (mW.sm (ph:=ph) (r:=r) (d:=r x) bC);have dv:=eg.sm bC;let bj:bu:={aE with size:=eP x (cut (gR ph ρ r x).size) aE.size}.black x
  have dc:∀z,bj.col z=if z=x then 2 else aE.col z:=fun z=>fb _ z
  have s3:∀z,bj.sz z=if z=x then cut (gR ph ρ r x).size else aE.sz z:=fun z=>by show(c5 z (eP x _ aE.size)).getD 0=_;rw[nB];split<;>rfl
  refine⟨N+1,bj,fun n ay=>?_,⟨⟨dv.fin.ru,dv.fin.keys,dv.fin.ph⟩,fun z br=>?_⟩,⟨FL.full,fun z br=>?_,fun z br=>?_⟩,by rw[dc,if_pos rfl],by rw[s3,if_pos rfl]⟩
  ·obtain⟨n',rfl⟩:∃n',n=n'+1:=⟨n-1,by omega⟩;simp only[qo,if_neg x1,if_neg nk,if_neg ag,a8 n' (by omega),k7,Bool.true_eq_false,if_false,afT,bF,oh,mB,bj]
  ·rw[dc,s3];by_cases nO:z=x
   ·subst nO;simp only[if_true];exact .inr ⟨trivial,trivial⟩
   ·simp only[if_neg nO];by_cases bE:r z<r x
    ·exact dv.col z bE
    ·obtain⟨bD,a2⟩:=FL.hi z (by omega);rw[bD,a2,xG,B4,if_neg nO,if_neg nO];exact hw.col z br
  ·have nO:z≠x:=fun e=>by subst e;omega
   obtain⟨bD,a2⟩:=FL.hi z (by omega);rw[dc,s3,if_neg nO,if_neg nO,bD,a2,xG,B4,if_neg nO,if_neg nO];exact⟨rfl,rfl⟩
  ·have nO:z≠x:=fun e=>by subst e;omega
   obtain⟨bD,a2⟩:=FL.lo z (by rw[xG,if_neg nO];exact br);rw[dc,s3,if_neg nO,if_neg nO,bD,a2,B4,if_neg nO];exact⟨rfl,rfl⟩
structure rp (V:List Int) (ph:Int→aZ T) (ρ:Int→Int) (r:Int→Nat) (c:bu):Prop where
 fin:tO V ph ρ c
 full:∀x t,c5 x c.full=some t→t=gR ph ρ r x
theorem rp.sm{c cu:bu}(h:rp V ph ρ r c)(k:iE ρ c cu):rp V ph ρ r cu:=⟨h.fin.sm k,by rw[k.rest.2.2];exact h.full⟩
theorem an8(gF:ot V ph)(eT:∀v,ρ (ρ v)=ρ v)(aJ:∀z u,iY ph ρ z u→r u<r z)(d:Nat):∀(x:Int) (c:bu),r x<d→ρ x=x→x∈V→rp V ph ρ r c→
  ∃N cu,(∀n,N≤n→qn n x c=some (gR ph ρ r x,cu))∧rp V ph ρ r cu:=by
 induction d with
 |zero=>intro x c h;omega
 |succ d bO=>
 intro x c aQ af jq aF;cases aL:c5 x c.full with
 |some t=>refine⟨1,c,fun n ay=>?_,aF⟩;obtain⟨n',rfl⟩:∃n',n=n'+1:=⟨n-1,by omega⟩;simp only[qn,aL,aF.full x t aL]
 |none=>
  have Ta:∀(e:bu),rp V ph ρ r e→rp V ph ρ r {e with full:=eP x (gR ph ρ r x) e.full}:=fun e he=>⟨⟨he.fin.ru,he.fin.keys,he.fin.ph⟩,fun z t br=>by
   have rW:c5 z (eP x (gR ph ρ r x) e.full)=some t:=br;rw[nB]at rW;split at rW
   ·rename_i e;subst e;cases rW;rfl
   ·exact he.full z t rW⟩
  by_cases ag:c.shd x=false
  ·have jt:ph x=none:=by rw[←aF.fin.ph];exact AM ag
   have a7:gR ph ρ r x= .var x:=by rw[B3 (by rw[af];exact jt),af]
   refine⟨1,_,fun n ay=>?_,Ta c aF⟩;obtain⟨n',rfl⟩:∃n',n=n'+1:=⟨n-1,by omega⟩;simp only[qn,aL,if_pos ag,a7]
  ·have jt:ph x=some (c.shp x):=by rw[←aF.fin.ph];exact AN ag
   obtain⟨g1,g2,g3⟩:=gF _ _ jt;have afq:∀(t:T) (e:bu),(∀w,t.occ w=true→(c.shp x).occ w=true)→rp V ph ρ r e→∃N fy,(∀n,N≤n→t.mapO (Bm (qn n)) e=some (t.ap (gR ph ρ r),fy))∧rp V ph ρ r fy:=by
    intro t;induction t with
    |var v=>intro e nn he;have wh:=g2 v (nn v (by simp[T.occ]));have wa:r (ρ v)<r x:=aJ x (ρ v) ⟨af,_,v,jt,nn v (by simp[T.occ]),rfl⟩;obtain⟨ak,a8,aU⟩:=tu he.fin.ru (by rw[he.fin.keys];exact wh:v∈cv e.up);obtain⟨N,aE,bF,dv⟩:=bO (ρ v) ak (by omega) (eT v) (by rw[←he.fin.keys];exact(he.fin.ru.mem (by rw[he.fin.keys];exact wh)).1) (he.sm aU);exact⟨N,aE,fun n ay=>by simp only[T.mapO,Bm,a8,k7,bF n ay,T.ap];rw[←zz eT],dv⟩
    |pair a b dX dY=>intro e nn he;obtain⟨hI,ak,a8,eg⟩:=dX e (fun w hw=>nn w (by simp[T.occ,hw])) he;obtain⟨ja,aE,bF,dv⟩:=dY ak (fun w hw=>nn w (by simp[T.occ,hw])) eg;exact⟨max hI ja,aE,fun n ay=>by simp only[T.mapO,a8 n (by omega),k7,bF n (by omega),oh,T.ap],dv⟩
    |_=>intro e _ he;exact⟨0,e,fun n _=>rfl,he⟩
   obtain⟨N,e,a8,eg⟩:=afq (c.shp x) c (fun w h=>h) aF;have mB:gR ph ρ r x=(c.shp x).ap (gR ph ρ r):=zA eT aJ (by rw[af];exact jt);refine⟨N+1,_,fun n ay=>?_,Ta e eg⟩;obtain⟨n',rfl⟩:∃n',n=n'+1:=⟨n-1,by omega⟩;simp only[qn,aL,if_neg ag,a8 n' (by omega),oh,mB]
def nN(ph:Int→aZ T)(ρ:Int→Int)(v:Int):Bool:= !(decide (ρ v=v)&&(ph v).isNone)
theorem alU(gF:ot V ph)(eT:∀v,ρ (ρ v)=ρ v)(aJ:∀z u,iY ph ρ z u→r u<r z)(jG:∀v∈V,ρ v∈V):∀(aV:List Int) (c:bu) (out:List Int),(∀v∈aV,v∈V)→(∀d,qB V ph ρ r d c)→out.length≤400→(∀v∈out,(gR ph ρ r v).size≤5000)→
  ∃N cu o,(∀n,N≤n→se n aV c out=some (o,cu))∧tO V ph ρ cu∧cu.full=c.full∧(∀l,o=some l→l=out++aV.filter (nN ph ρ)∧l.length≤400∧∀v∈l,(gR ph ρ r v).size≤5000)∧(o=none→¬((out++aV.filter (nN ph ρ)).length≤400∧∀v∈out++aV.filter (nN ph ρ),(gR ph ρ r v).size≤5000)):=by
 intro aV;induction aV with
 |nil=>intro c out _ hw J U;exact⟨0,c,some out,fun n _=>rfl,(hw 0).fin,rfl,fun l e=>by cases e;simp;exact⟨J,U⟩,fun e=>by cases e⟩
 |cons v aV bO=>
  intro c out aF hw J U;have wh:=aF v (by simp);obtain⟨bL,a8,aU⟩:=tu (hw 0).fin.ru (by rw[(hw 0).fin.keys];exact wh:v∈cv c.up);have FX:∀d,qB V ph ρ r d bL:=fun d=>(hw d).sm aU;obtain⟨hI,cp,bF,dv,dt,aE,s2⟩:=aoa gF eT aJ (r (ρ v)+1) (ρ v) bL (by omega) (eT v) (jG v wh) (FX _);have oJ:∀d,qB V ph ρ r d cp:=fun d=>⟨dv.fin,fun z br=>by
   by_cases bE:r z<r (ρ v)+1
   ·exact dv.col z bE
   ·obtain⟨bD,a2⟩:=dt.hi z (by omega);rw[bD,a2];exact(FX d).col z br⟩
  have J7:cp.full=c.full:=dt.full.trans aU.rest.2.2;have Th:(cp.shd (ρ v)=false)=((ph (ρ v)).isNone=true):=by rw[←dv.fin.ph];unfold bu.ph;cases cp.shd (ρ v)<;>simp
  have hc:∀n,hI≤n→se n (v::aV) c out=(if ρ v=v∧cp.shd (ρ v)=false then se n aV cp out else if 5000<cp.sz (ρ v)∨400<out.length+1 then some (none,cp)else se n aV cp (out++[v])):=fun n ay=>by simp only[se,a8,k7,bF n ay,Bool.true_eq_false,if_false]
  have SH:gR ph ρ r (ρ v)=gR ph ρ r v:=(zz eT v).symm;by_cases au:ρ v=v∧cp.shd (ρ v)=false
  ·have ad:nN ph ρ v=false:=by have ar:=au.2;rw[Th]at ar;rw[au.1]at ar;simp[nN,au.1,ar]
   obtain⟨ja,dc,o,b0,f3,qm,HU,jg⟩:=bO cp out (fun w hw=>aF w (by simp[hw])) oJ J U;refine⟨max hI ja,dc,o,fun n ay=>by rw[hc n (by omega),if_pos au];exact b0 n (by omega),f3,qm.trans J7,?_,?_⟩
   ·simp only[List.filter_cons,ad,gX,if_false];exact HU
   ·simp only[List.filter_cons,ad,gX,if_false];exact jg
  ·have ad:nN ph ρ v=true:=by
    cases e:nN ph ρ v with
    |true=>rfl
    |false=>simp only[nN,Bool.not_eq_false',cC,e2]at e;exact absurd ⟨e.1,by rw[Th,e.1];exact e.2⟩ au
   by_cases aw:5000<cp.sz (ρ v)∨400<out.length+1
   ·refine⟨hI,cp,none,fun n ay=>by rw[hc n ay,if_neg au,if_pos aw],dv.fin,J7,(fun l e=>by cases e),fun _=>?_⟩;simp only[List.filter_cons,ad,if_true];rintro⟨bD,a2⟩;rcases aw with aw|aw
    ·rw[s2,SH]at aw;have:=a2 v (by simp);unfold cut at aw;split at aw<;>omega
    ·simp at bD;omega
   ·have br:(gR ph ρ r v).size≤5000:=by have:¬5000<cp.sz (ρ v):=fun h=>aw (.inl h);rw[s2,SH]at this;unfold cut at this;split at this<;>omega
    obtain⟨ja,dc,o,b0,f3,qm,HU,jg⟩:=bO cp (out++[v]) (fun w hw=>aF w (by simp[hw])) oJ (by simp;omega) (fun w hw=>by
     rcases kQ.1 hw with hw|hw
     ·exact U w hw
     ·simp at hw;subst hw;exact br)
    refine⟨max hI ja,dc,o,fun n ay=>by rw[hc n (by omega),if_neg au,if_neg aw];exact b0 n (by omega),f3,qm.trans J7,?_,?_⟩
    ·simp only[List.filter_cons,ad,if_true];simpa using HU
    ·simp only[List.filter_cons,ad,if_true];simpa using jg
theorem alV(gF:ot V ph)(eT:∀v,ρ (ρ v)=ρ v)(aJ:∀z u,iY ph ρ z u→r u<r z)(jG:∀v∈V,ρ v∈V):∀(aV:List Int) (c:bu),(∀v∈aV,v∈V)→rp V ph ρ r c→∃N cu,∀n,N≤n→yN n aV c=some (aV.map fun v=>⟨v,gR ph ρ r v⟩,cu):=by
 intro aV;induction aV with
 |nil=>intro c _ _;exact⟨0,c,fun n _=>rfl⟩
 |cons v aV bO=>intro c aF hw;have wh:=aF v (by simp);obtain⟨bL,a8,aU⟩:=tu hw.fin.ru (by rw[hw.fin.keys];exact wh:v∈cv c.up);obtain⟨hI,cp,bF,dv⟩:=an8 gF eT aJ (r (ρ v)+1) (ρ v) bL (by omega) (eT v) (jG v wh) (hw.sm aU);obtain⟨ja,dc,b0⟩:=bO cp (fun w hw=>aF w (by simp[hw])) dv;refine⟨max hI ja,dc,fun n ay=>?_⟩;simp only[yN,a8,k7,bF n (by omega),b0 n (by omega),oh,gO];rw[←zz eT]
end
end Go.Pv
namespace Go.Pv
open Go
def bu.new:bu:=⟨[],[],[],[],[],[]⟩
def q7(l:List Int):List Int:=l.mergeSort fun x y=>decide (x≤y)
def Ba(n:Nat)(E:List (T×T)):aZ (aZ (List al)):=(pX n E bu.new).bind fun p=>if p.1=false then some none else DU n (q7 (cv p.2.up)) p.2
theorem DX(l:List Int):(q7 l).Perm l:=List.mergeSort_perm l _
theorem al9{l:List Int}(h:l.Nodup):(q7 l).Pairwise (· < ·):=by have J:(q7 l).Pairwise fun x y=>decide (x≤y)=true:=List.pairwise_mergeSort (fun a b c=>by simp;omega) (fun a b=>by simp;omega) l;have U:(q7 l).Pairwise (· ≠ ·):=List.nodup_iff_pairwise_ne.1 ((DX l).nodup_iff.2 h);exact(J.and U).imp fun h=>by simp at h;omega
structure YG (c:bu) (ρ:Int→Int) (cu:bu) (U4:Int→Prop):Prop where
 inv:lZ cu ρ
 ph:cu.ph=c.ph
 nd:(cv cu.up).Nodup
 sub:∀v∈cv c.up,v∈cv cu.up
 occ:∀v,U4 v→v∈cv cu.up
 rest:cu.color=c.color∧cu.size=c.size∧cu.full=c.full
 new:∀v∈cv cu.up,v∈cv c.up∨U4 v
theorem UH{ρ:Int→Int}(t:T):∀(c:bu),lZ c ρ→(cv c.up).Nodup→(∀v,t.occ v=true→0≤v)→∃cu,Ar t c=some cu∧YG c ρ cu fun v=>t.occ v=true:=by
 unfold Ar;induction t with
 |var v=>
  intro c hi ay bn;by_cases aF:v∈cv c.up
  ·obtain⟨bL,a8,aU⟩:=tu hi.ru aF;refine⟨bL,by simp[T.foldO,a8],hi.sm aU,aU.ph,by rw[aU.keys];exact ay,fun w hw=>by rw[aU.keys];exact hw,fun w hw=>?_,aU.rest,fun w hw=>.inl (by rw[aU.keys]at hw;exact hw)⟩;simp[T.occ]at hw;subst hw;rw[aU.keys];exact aF
  ·obtain⟨a8,bF,b0⟩:=alx hi.ru (bn v (by simp[T.occ])) aF;refine⟨{c with up:=eP v v c.up},by simp only[T.foldO,a8,oh],⟨bF,?_,hi.sat⟩,rfl,?_,fun w hw=>by rw[b0];simp[hw],fun w hw=>?_,⟨rfl,rfl,rfl⟩,fun w hw=>?_⟩
   ·intro x u af;obtain⟨bD,a2,a3⟩:=hi.sh x u af;refine⟨bD,fun w hw=>?_,?_⟩
    ·show w∈cv (eP v v c.up);rw[b0];simp[a2 w hw]
    ·show x∈cv (eP v v c.up);rw[b0];simp[a3]
   ·rw[b0];rw[List.nodup_append];exact⟨ay,by simp,fun a bz b ad e=>by simp at ad;subst ad;subst e;exact aF bz⟩
   ·simp[T.occ]at hw;subst hw;rw[b0];simp
   ·rw[b0]at hw;simp at hw;rcases hw with hw|rfl;exact .inl hw;exact .inr (by simp[T.occ])
 |pair a b dX dY=>
  intro c hi ay bn;obtain⟨bL,a8,m1⟩:=dX c hi ay fun v aF=>bn v (by simp[T.occ,aF]);obtain⟨cp,bF,m2⟩:=dY bL m1.inv m1.nd fun v aF=>bn v (by simp[T.occ,aF]);refine⟨cp,by simp only[T.foldO,a8,k7,bF],m2.inv,m2.ph.trans m1.ph,m2.nd,fun v aF=>m2.sub v (m1.sub v aF),fun v aF=>?_,?_,fun v aF=>?_⟩
  ·simp only[T.occ,lX]at aF;rcases aF with aF|aF
   ·exact m2.sub v (m1.occ v aF)
   ·exact m2.occ v aF
  ·rw[m2.rest.1,m2.rest.2.1,m2.rest.2.2];exact m1.rest
  ·rcases m2.new v aF with h|h
   ·rcases m1.new v h with h|h
    ·exact .inl h
    ·exact .inr (by simp[T.occ,h])
   ·exact .inr (by simp[T.occ,h])
 |_=>intro c hi ay bn;exact⟨c,rfl,hi,rfl,ay,fun v aF=>aF,fun v aF=>by simp[T.occ]at aF,⟨rfl,rfl,rfl⟩,fun v aF=>.inl aF⟩
def LD(E:List (T×T)):Prop:= ∀e∈E,∀v,(e.1.occ v=true∨e.2.occ v=true)→0≤v
theorem BM:∀(E:List (T×T)) (c:bu) (ρ:Int→Int),lZ c ρ→(cv c.up).Nodup→LD E→∃N o,(∀n,N≤n→pX n E c=some o)∧((o.2.color=c.color∧o.2.size=c.size∧o.2.full=c.full)∧∀v∈cv o.2.up,v∈cv c.up∨ ∃e∈E,e.1.occ v=true∨e.2.occ v=true)∧(o.1=true→∃ρ',lZ o.2 ρ'∧(cv o.2.up).Nodup∧∀aP,kc o.2.ph ρ' aP↔kc c.ph ρ aP∧jC E aP)∧(o.1=false→∀aP,kc c.ph ρ aP→¬jC E aP):=by
 intro E;induction E with
 |nil=>intro c ρ hi ay _;exact⟨0,(true,c),fun n _=>rfl,⟨⟨rfl,rfl,rfl⟩,fun v aF=>.inl aF⟩,fun _=>⟨ρ,hi,ay,fun aP=>⟨fun h=>⟨h,DW aP⟩,fun h=>h.1⟩⟩,fun e=>by cases e⟩
 |cons e E bO=>
  intro c ρ hi ay bn;obtain⟨bL,a8,m1⟩:=UH e.1 c hi ay fun v aF=>bn e (by simp) v (.inl aF);obtain⟨cp,bF,m2⟩:=UH e.2 bL m1.inv m1.nd fun v aF=>bn e (by simp) v (.inr aF);obtain⟨k5,uJ⟩:=m2.inv.sat
  obtain⟨hI,gU,b0,iR⟩:=aar _ _ cp ρ e.1 e.2 k5 m2.inv uJ (fun w hw=>m2.sub w (m1.occ w hw)) (fun w hw=>m2.occ w hw) rfl rfl;have jt:cp.ph=c.ph:=m2.ph.trans m1.ph;have lI:gU.2.color=c.color∧gU.2.size=c.size∧gU.2.full=c.full:=by rw[iR.rest.1,iR.rest.2.1,iR.rest.2.2,m2.rest.1,m2.rest.2.1,m2.rest.2.2];exact m1.rest
  have FD:∀v∈cv gU.2.up,v∈cv c.up∨e.1.occ v=true∨e.2.occ v=true:=fun v aF=>by
   rw[iR.keys]at aF;rcases m2.new v aF with h|h
   ·rcases m1.new v h with h|h
    ·exact .inl h
    ·exact .inr (.inl h)
   ·exact .inr (.inr h)
  obtain⟨f,dc⟩:=gU;cases f with
  |false=>refine⟨hI,(false,dc),fun n ay=>?_,⟨lI,fun v aF=>(FD v aF).imp id fun h=>⟨e,by simp,h⟩⟩,(fun e=>by cases e),fun _ aP ag he=>iR.no rfl aP (by rw[jt];exact ag) (q5.1 he).1⟩;simp only[pX,a8,bF,k7,b0 n ay,gX,if_false]
  |true=>
   obtain⟨ls,bD,a2,_⟩:=iR.yes rfl;simp only at bD a2;obtain⟨ja,gM,cl,b8,fG,ou⟩:=bO dc ls bD (by have:=iR.keys;simp only at this;rw[this];exact m2.nd) fun fy he=>bn fy (by simp[he]);refine⟨max hI ja,gM,fun n ay=>?_,?_,fun aL=>?_,fun aL aP ag he=>?_⟩
   ·simp only[pX,a8,bF,k7,b0 n (by omega),if_true];exact cl n (by omega)
   ·refine⟨by rw[b8.1.1,b8.1.2.1,b8.1.2.2];exact lI,fun v aF=>?_⟩;rcases b8.2 v aF with h|⟨fy,J,U⟩
    ·exact(FD v h).imp id fun h=>⟨e,by simp,h⟩
    ·exact .inr ⟨fy,by simp[J],U⟩
   ·obtain⟨ρ2,d1,d2,d3⟩:=fG aL;exact⟨ρ2,d1,d2,fun aP=>by rw[d3 aP,a2 aP,jt,q5,and_assoc]⟩
   ·exact ou aL aP ((a2 aP).2 ⟨by rw[jt];exact ag,(q5.1 he).1⟩) (q5.1 he).2
theorem Ez{ph:Int→aZ T}{ρ:Int→Int}{v:Int}:nN ph ρ v=false↔ρ v=v∧ph v=none:=by simp[nN]
theorem Sf{ph:Int→aZ T}{ρ:Int→Int}{r:Int→Nat}(eT:∀v,ρ (ρ v)=ρ v):∀(n:Nat) (v w:Int),(mY ph ρ n v).occ w=true→(∀z u,iY ph ρ z u→r u<r z)→r (ρ v)<n→ρ w=w∧ph w=none
 |0,v,w,_,_,h=>by omega
 |n+1,v,w,h,aJ,ay=>by
  simp only[mY]at h;cases e:ph (ρ v)with
  |none=>rw[e]at h;simp[T.occ]at h;subst h;exact⟨eT v,e⟩
  |some t=>rw[e]at h;obtain⟨u,J,U⟩:=Dj.1 h;have:=aJ (ρ v) (ρ u) ⟨eT v,t,u,e,J,rfl⟩;exact Sf eT n u w U aJ (by omega)
section
variable {V:List Int} {ph:Int→aZ T} {ρ:Int→Int} {r:Int→Nat}
def tx(ph:Int→aZ T)(ρ:Int→Int)(r:Int→Nat)(V:List Int):List al:=((q7 V).filter (nN ph ρ)).map fun v=>⟨v,gR ph ρ r v⟩
theorem MV(ay:V.Nodup):hH (tx ph ρ r V):=by unfold tx;rw[hH,List.pairwise_map];exact((al9 ay).filter _)
theorem W0(ay:V.Nodup)(gF:ot V ph)(ct:∀v,v∉V→ρ v=v)(v:Int):df (tx ph ρ r V) v=if nN ph ρ v then some (gR ph ρ r v)else none:=by
 by_cases ad:nN ph ρ v=true
 ·rw[if_pos ad];have aF:v∈V:=by
   refine Classical.byContradiction fun h=>?_;have J:=ct v h;have U:ph v=none:=by cases e:ph v with
    |none=>rfl
    |some t=>exact absurd (gF v t e).2.2 h
   rw[Ez.2 ⟨J,U⟩]at ad;cases ad
  have:(⟨v,gR ph ρ r v⟩:al)∈tx ph ρ r V:=h5.2 ⟨v,nH.2 ⟨(DX V).mem_iff.2 aF,ad⟩,rfl⟩;exact tY (MV ay) this
 ·rw[if_neg ad];refine vv.2 fun b fV e=>?_;obtain⟨u,J,rfl⟩:=h5.1 fV;simp only at e;subst e;exact ad (nH.1 J).2
theorem alX(ay:V.Nodup)(gF:ot V ph)(ct:∀v,v∉V→ρ v=v)(eT:∀v,ρ (ρ v)=ρ v)(hle:∀v,ρ v≤v)(aJ:∀z u,iY ph ρ z u→r u<r z):fF (tx ph ρ r V):=by
 refine⟨MV ay,fun b ad w hw=>?_,fun b ad w hw=>?_⟩
 ·obtain⟨u,J,rfl⟩:=h5.1 ad;rw[W0 ay gF ct];have:=Sf eT _ u w hw aJ (by omega);rw[Ez.2 this];rfl
 ·obtain⟨u,J,rfl⟩:=h5.1 ad;have pA:=(nH.1 J).2;simp only at hw⊢;cases e:ph (ρ u)with
  |none=>
   rw[B3 e]at hw;cases hw;have U:=hle u;have ar:ρ u≠u:=fun h=>by rw[Ez.2 ⟨h,by rw[h]at e;exact e⟩]at pA;cases pA
   omega
  |some t=>rw[zA eT aJ e]at hw;have:=(gF _ _ e).1;cases t<;>simp[T.ap,T.kind]at hw this
theorem aer(eT:∀v,ρ (ρ v)=ρ v)(aJ:∀z u,iY ph ρ z u→r u<r z)(aP:Int→T):kc ph ρ aP↔∀v,aP v=(gR ph ρ r v).ap aP:=by
 constructor
 ·intro h;have:∀(n:Nat) (v:Int),r (ρ v)<n→aP v=(gR ph ρ r v).ap aP:=by
   intro n;induction n with
   |zero=>intro v h;omega
   |succ n bO=>
    intro v aF;cases e:ph (ρ v)with
    |none=>rw[B3 e];exact h.1 v
    |some t=>rw[zA eT aJ e,BA,h.1 v,h.2 _ t (eT v) e];refine tW fun w hw=>bO w ?_;have:=aJ (ρ v) (ρ w) ⟨eT v,t,w,e,hw,rfl⟩;omega
  exact fun v=>this _ v (Nat.lt_succ_self _)
 ·intro h;refine⟨fun v=>by rw[h v,h (ρ v),←zz eT],fun x t af aK=>?_⟩;rw[h x,zA eT aJ (by rw[af];exact aK),BA];exact tW fun w _=>(h w).symm
theorem alW(ay:V.Nodup)(gF:ot V ph)(ct:∀v,v∉V→ρ v=v)(eT:∀v,ρ (ρ v)=ρ v)(aJ:∀z u,iY ph ρ z u→r u<r z)(aP:Int→T):gQ (tx ph ρ r V) aP↔kc ph ρ aP:=by
 rw[aer eT aJ,al3 (MV ay)];refine forall_congr' fun v=>?_;rw[bV,W0 ay gF ct];cases e:nN ph ρ v with
 |true=>simp
 |false=>obtain⟨J,U⟩:=Ez.1 e;rw[B3 (by rw[J];exact U),J];simp
end
theorem al4(E:List (T×T))(bn:LD E):∃n o,Ba n E=some o∧iF [] E o∧∀c,pX n E bu.new=some (true,c)→(cv c.up).Nodup∧(∀v∈cv c.up,∃e∈E,e.1.occ v=true∨e.2.occ v=true)∧c.size=[]:=by
 have hi:lZ bu.new id:=⟨⟨fun v u h=>by simp[bu.new,c5]at h,fun v _=>rfl⟩,fun x t h=>by simp[bu.new,bu.ph,bu.shd,c5]at h,⟨.var,fun v=>rfl,fun x t _ h=>by simp[bu.new,bu.ph,bu.shd,c5]at h⟩⟩;have uq:∀aP,kc bu.new.ph id aP:=fun aP=>⟨fun v=>rfl,fun x t _ h=>by simp[bu.new,bu.ph,bu.shd,c5]at h⟩;obtain⟨hI,gU,a8,cP,dt,iR⟩:=BM E bu.new id hi (by simp[bu.new,cv]) bn;obtain⟨cP,Vx⟩:=cP;obtain⟨f,c⟩:=gU;cases f with
 |false=>refine⟨hI,none,by simp[Ba,a8 hI (eR _)],Eu fun aP _ he=>iR rfl aP (uq aP) he,fun c h=>?_⟩;rw[a8 hI (eR _)]at h;cases h
 |true=>
  obtain⟨ρ,bD,a2,a3⟩:=dt rfl;simp only at bD a2 a3 cP Vx;have SD:∀n,hI≤n→∀cu,pX n E bu.new=some (true,cu)→(cv cu.up).Nodup∧(∀v∈cv cu.up,∃e∈E,e.1.occ v=true∨e.2.occ v=true)∧cu.size=[]:=fun n ay cu h=>by rw[a8 n ay]at h;cases h;exact⟨a2,fun v aF=>(Vx v aF).resolve_left (by simp[bu.new,cv]),cP.2.1⟩
  obtain⟨r,aJ⟩:=bD.rank;have eT:=bD.ru.idem;have jG:∀v∈cv c.up,ρ v∈cv c.up:=fun v aF=>(bD.ru.mem aF).1;have dx:tO (cv c.up) c.ph ρ c:=⟨bD.ru,rfl,rfl⟩;have hw:∀d,qB (cv c.up) c.ph ρ r d c:=fun d=>⟨dx,fun z _=>.inl (by simp[bu.col,cP.1,bu.new,c5])⟩;obtain⟨ja,cp,o,cl,b8,fG,ou,On⟩:=alU bD.sh eT aJ jG (q7 (cv c.up)) c [] (fun v aF=>(DX _).mem_iff.1 aF) hw (by simp) (fun v aF=>by simp at aF);have dG:=alX (r:=r) a2 bD.sh bD.ru.no eT bD.ru.le aJ;have lh:∀aP,gQ (tx c.ph ρ r (cv c.up)) aP↔gQ [] aP∧jC E aP:=fun aP=>by rw[alW a2 bD.sh bD.ru.no eT aJ,a3 aP];exact⟨fun h=>⟨fun b ad=>by simp at ad,h.2⟩,fun h=>⟨uq aP,h.2⟩⟩
  have SF:gp (tx c.ph ρ r (cv c.up))↔(([]++(q7 (cv c.up)).filter (nN c.ph ρ)).length≤400∧∀v∈[]++(q7 (cv c.up)).filter (nN c.ph ρ),(gR c.ph ρ r v).size≤5000):=by unfold gp tx;simp only[rj,b2,h5,forall_exists_index,and_imp,forall_apply_eq_imp_iff₂]
  cases o with
  |none=>refine⟨max hI ja,none,by simp[Ba,a8 (max hI ja) (by omega),DU,cl (max hI ja) (by omega)],?_,SD _ (by omega)⟩;exact fun ai J U ar=>On rfl (SF.1 (RG dG J (fun aP hr=>(lh aP).2 (U aP hr)) ar))
  |some l=>
   obtain⟨ak,aE,bj⟩:=ou l rfl;have af6:rp (cv c.up) c.ph ρ r cp:=⟨b8,fun x t h=>by rw[fG,cP.2.2]at h;simp[bu.new,c5]at h⟩;simp only[b2]at ak;obtain⟨y5,dc,d1⟩:=alV bD.sh eT aJ jG l cp (fun v aF=>by rw[ak]at aF;exact(DX _).mem_iff.1 (nH.1 aF).1) af6;refine⟨max (max hI ja) y5,some (tx c.ph ρ r (cv c.up)),?_,⟨⟨dG,SF.2 ?_⟩,lh⟩,SD _ (by omega)⟩
   ·simp only[Ba,a8 (max (max hI ja) y5) (by omega),k7,Bool.true_eq_false,if_false,DU,cl (max (max hI ja) y5) (by omega),d1 (max (max hI ja) y5) (by omega),oh];rw[ak];rfl
   ·rw[b2,←ak];exact⟨aE,bj⟩
def hJ(s:List al):List (T×T):=s.map fun b=>(.var b.v,b.t)
theorem al2{s:List al}{aP:Int→T}:jC (hJ s) aP↔gQ s aP:=by simp[jC,hJ,gQ,T.ap]
theorem YQ{s:List al}{E:List (T×T)}{o:aZ (List al)}:iF [] (hJ s++E) o↔iF s E o:=by
 have h:∀aP,(gQ [] aP∧jC (hJ s++E) aP)↔(gQ s aP∧jC E aP):=fun aP=>by rw[DV,al2];exact⟨fun h=>h.2,fun h=>⟨fun b ad=>by simp at ad,h⟩⟩
 exact⟨By h,By fun aP=>(h aP).symm⟩
end Go.Pv
namespace Go.Pv
open Go
open Classical in
noncomputable def mgu(s:List al)(E:List (T×T)):aZ (List al):=if h:∃o,iF s E o then h.choose else none
theorem r4{s:List al}{E:List (T×T)}{o:aZ (List al)}(h:iF s E o):mgu s E=o:=by have af:∃o,iF s E o:=⟨o,h⟩;unfold mgu;rw[dif_pos af];exact YR af.choose_spec h
def kK(s:List al):Prop:= ∀b∈s,(0≤b.v∧b.v≤100000)∧b.t.ok=true
theorem Oc{aP:Int→T}{t:T}(aK:t.ok=true)(h:∀v,t.occ v=true→(aP v).ok=true):(t.ap aP).ok=true:=by
 induction t with
 |var n=>exact h n (by simp[T.occ])
 |pair a b dX dY=>simp only[T.ok,cC]at aK;simp only[T.ap,T.ok,cC];exact⟨dX aK.1 fun v aF=>h v (by simp[T.occ,aF]),dY aK.2 fun v aF=>h v (by simp[T.occ,aF])⟩
 |_=>exact aK
theorem w8{t:T}(aK:t.ok=true){v:Int}(h:t.occ v=true):0≤v∧v≤100000:=by
 induction t with
 |var n=>simp[T.occ]at h;subst h;simpa[T.ok]using aK
 |pair a b dX dY=>
  simp only[T.ok,cC]at aK;simp only[T.occ,lX]at h;rcases h with h|h
  ·exact dX aK.1 h
  ·exact dY aK.2 h
 |_=>simp[T.occ]at h
theorem Hr{s:List al}(ag:kK s){t:T}(aK:t.ok=true):(t.ap (bV s)).ok=true:=Oc aK fun v aF=>by
 unfold bV;cases e:df s v with
 |none=>have:=w8 aK aF;simpa[T.ok]using this
 |some x=>exact(ag _ (jU e)).2
theorem BC{s:List al}(ag:kK s){v:Int}{t:T}(aF:0≤v∧v≤100000)(aK:t.ok=true){ai:List al}(h:nM s v t=some ai):kK ai:=by
 unfold nM at h;split at h
 ·cases h;intro b ad;rcases qg.1 ad with rfl|⟨c,au,rfl⟩
  ·exact⟨aF,Hr ag aK⟩
  ·refine⟨(ag c au).1,Oc (ag c au).2 fun w hw=>?_⟩;unfold one;split
   ·exact Hr ag aK
   ·have:=w8 (ag c au).2 hw;simpa[T.ok]using this
 ·cases h
theorem Yf{s:List al}(ag:kK s){t:T}(aK:t.ok=true):(hk s t).ok=true:=by
 cases t with
 |var n=>have:=Hr ag aK;simpa[hk,T.ap]using this
 |_=>exact aK
theorem Nk:∀(n:Nat) (s:List al) (a b:T) (ai:List al),kK s→a.ok=true→b.ok=true→kM n s a b=some (some ai)→kK ai
 |0,_,_,_,_,_,_,_,h=>by simp[kM]at h
 |n+1,s,a,b,ai,ag,bz,ad,h=>by
  have af:=Yf ag bz;have aM:=Yf ag ad;simp only[kM]at h;generalize hk s a=x at h af;generalize hk s b=y at h aM;have wi:∀{i:Int},(T.var i).ok=true→0≤i∧i≤100000:=fun h=>w8 h (by simp[T.occ]);cases x with
  |var i=>
   cases y with
   |var j=>
    simp only[j7,dL]at h;split at h
    ·exact BC ag (wi aM) af h
    ·split at h
     ·cases h;exact ag
     ·exact BC ag (wi af) aM h
   |_=>simp only[j7,dL]at h;exact BC ag (wi af) aM h
  |pair bD a2=>
   cases y with
   |var j=>simp only[j7,dL]at h;exact BC ag (wi aM) af h
   |pair cl b8=>
    simp only[T.ok,cC]at af aM;simp only[j7]at h;split at h
    ·cases h
    ·cases h
    ·rename_i s1 ak;exact Nk n s1 a2 b8 ai (Nk n s bD cl s1 ag af.1 aM.1 ak) af.2 aM.2 h
   |_=>simp[j7]at h
  |_=>
   cases y with
   |var j=>simp only[j7,dL]at h;exact BC ag (wi aM) af h
   |_=>
    simp only[j7,dL]at h;split at h
    ·cases h;exact ag
    ·cases h
def nD:T→List Int
 | .var n=>[n]
 | .pair a b=>nD a++nD b
 |_=>[]
theorem yn{t:T}{v:Int}(h:t.occ v=true):v∈nD t:=by
 induction t with
 |var n=>simp[T.occ]at h;subst h;simp[nD]
 |pair a b dX dY=>simp only[T.occ,lX]at h;simp only[nD,kQ];exact h.imp dX dY
 |_=>simp[T.occ]at h
theorem HI{s:List al}(ag:fF s)(aL:gp s)(a b:T):∃n o,kM n s a b=some o∧iF s [(a,b)] o:=by obtain⟨n,o,J,U⟩:=Xz (s.flatMap (fun b=>b.v::nD b.t)++nD a++nD b) _ _ s a b ag aL (fun c au=>⟨by simp only[kQ,List.mem_flatMap];exact .inl (.inl ⟨c,au,by simp⟩),fun w hw=>by simp only[kQ,List.mem_flatMap];exact .inl (.inl ⟨c,au,by simp[yn hw]⟩)⟩) (fun w hw=>by simp[yn hw]) (fun w hw=>by simp[yn hw]) rfl rfl;exact⟨n,o,J,U.1⟩
theorem N1{s:List al}{e:T×T}{E:List (T×T)}{s1:List al}(h:iF s [e] (some s1)){o:aZ (List al)}(U:iF s1 E o):iF s (e::E) o:=N0 (E:=[e]) h U
theorem Gy{s:List al}(ag:fF s)(aL:gp s)(E:List (T×T)):iF s E (mgu s E):=by
 induction E generalizing s with
 |nil=>rw[r4 (Ib ag aL)];exact Ib ag aL
 |cons e E bO=>
  obtain⟨n,o,_,U⟩:=HI ag aL e.1 e.2;cases o with
  |none=>have ar:iF s (e::E) none:=Ia E U;rw[r4 ar];exact ar
  |some s1=>have ar:=N1 U (bO U.1.1 U.1.2);rw[r4 ar];exact ar
theorem Lt{s:List al}(ag:fF s)(aL:gp s):mgu s []=some s:=r4 (Ib ag aL)
theorem Ls{s:List al}(ag:fF s)(aL:gp s)(e:T×T)(E:List (T×T)):mgu s (e::E)=match mgu s [e]with|some s1=>mgu s1 E|none=>none:=by
 have J:=Gy ag aL [e];cases h:mgu s [e]with
 |none=>rw[h]at J;have ar:iF s (e::E) none:=Ia E J;exact r4 ar
 |some s1=>rw[h]at J;exact r4 (N1 J (Gy J.1.1 J.1.2 E))
theorem Au{s:List al}(ag:fF s)(aL:gp s){E:List (T×T)}{ai:List al}(h:mgu s E=some ai):fF ai∧gp ai:=by have J:=Gy ag aL E;rw[h]at J;exact J.1
theorem ahz{s:List al}(ag:fF s)(aL:gp s)(ax:kK s){E:List (T×T)}(dz:∀e∈E,e.1.ok=true∧e.2.ok=true){ai:List al}(h:mgu s E=some ai):kK ai:=by
 induction E generalizing s with
 |nil=>rw[Lt ag aL]at h;cases h;exact ax
 |cons e E bO=>
  rw[Ls ag aL]at h;split at h
  ·rename_i s1 J;obtain⟨n,o,U,ar⟩:=HI ag aL e.1 e.2;have ba:=r4 ar;rw[J]at ba;subst ba;exact bO ar.1.1 ar.1.2 (Nk n s e.1 e.2 s1 ax (dz e (by simp)).1 (dz e (by simp)).2 U) (fun fy he=>dz fy (by simp[he])) h
  ·cases h
theorem T0{l:List Int}(ay:l.Nodup)(h:∀v∈l,0≤v∧v≤100000):l.length≤100001:=by
 have J:(l.map Int.toNat).Nodup:=by rw[List.nodup_iff_pairwise_ne,List.pairwise_map];exact aom (fun{a b} bz ad cF e=>cF (by have:=h a bz;have:=h b ad;omega)) ay
 have:=NP J (l₂:=List.range 100001) (fun x af=>by obtain⟨v,aF,rfl⟩:=h5.1 af;have:=h v aF;simp;omega)
 simpa using this
end Go.Pv
