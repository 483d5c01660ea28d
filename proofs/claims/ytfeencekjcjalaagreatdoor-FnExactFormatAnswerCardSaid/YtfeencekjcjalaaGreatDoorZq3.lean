/- Unification asQ the reference does it. -/
import Derived.Deep.LoopGhost
import Derived.Test.YtfeencekjcjalaaGreatDoorZq2
set_option linter.all false
set_option maxHeartbeats 4000000
set_option maxRecDepth 4000
open Bool renaming and_eq_true->cD,false_eq_true->hI,or_eq_true->mR
open Decidable renaming not_not->aye
open Go renaming Program->cE,TypeId->fF
open Go.IntKind renaming bits->pw,i64->oQ,signed->uj,u64->hV,wrap->uk
open Go.IntWalk renaming i64_in->lY
open Go.Op renaming bytesLess->h5
open Go.Result renaming andThen_ok->fE
open Go.Sem renaming run_bind->fB,run_pure->gx
open Go.Value renaming cells->nu
open Go.Value.slice renaming injEq->ayn
open List renaming cons_append->b3,drop_eq_getElem_cons->mu,getElem?_append_left->rQ,getElem?_eq_getElem->cl,getElem?_eq_some_iff->fp,length_append->ga,length_cons->ik,length_map->iz,length_nil->nv,map_cons->fG,map_nil->nx,mem_append->j0,mem_append_left->sQ,mem_cons->gj,mem_cons_of_mem->pB,mem_filter->n3,mem_map->iA,nil_append->b6,nodup_append->rS,pairwise_cons->n4,pairwise_iff_getElem->q1
open List.Nodup renaming length_le_of_subset->QU
open List.Pairwise renaming nil->ayo
open List.Perm renaming eq_of_pairwise->QV
open List.cons renaming injEq->pA
open Nat renaming le_refl->e2,le_trans->j1
open Ne renaming symm->lb
open Option renaming getD_none->oU,getD_some->mv,isSome_iff_exists->gk,isSome_none->ny,map_eq_some_iff->gI,map_some->nz
open Option.some renaming inj->ft,injEq->dz
open Prod.mk renaming injEq->hW
open _root_ renaming False->eF,Option->aZ,UInt8->b7,beq_iff_eq->dW,congrArg->eG,decide_eq_false_iff_not->hb,decide_eq_true_eq->e3
namespace Go.Pv
section
open Go Go.RowKit
def y4(n0 d:Nat)(st:bn):Prop:= .loc (n0+d)∉st.o/\look (.loc (n0+d)) st.b=none/\look (.loc (n0+d)) st.e=none
def gy.loadO(q:Bool)(t:List (Nat×ah)):gy->Prop
 | .load _ _ x=>q=true\/zM (cg t x)=true
 | .loadB _ _ _=>True
 | .mgetB _ _ _ _ _=>True
 | .mget _ _ _ _ _=>q=true
 | .ment _=>q=true
 | .mlen _=>q=true
 |_=>True
def lQ(q:Bool)(nw:List Nat)(n0:Nat)(st:bn):ep->Prop
 | .v _ i=>i.loadO q st.t
 | .box d none _=>y4 n0 d st
 | .alloc d none _=>y4 n0 d st
 | .box _ (some _) _=>eF
 | .alloc _ (some _) _=>eF
 | .store _ x _=>match cg st.t x with| .ptr _ _=>True|_=>eF
 | .bslm _ none _ _ _=>eF
 | .bslm _ (some m) _ _ _=>m∈nw/\look (.obj m) st.b=none/\look (.obj m) st.e=none
 | .mks _ _ _ _ _ _=>eF
 | .apps _ _ _ _=>eF
 | .appm _ none _ _ x _=>match cg st.t x with| .row _ _ _=>True|_=>eF
 | .appm _ (some m) _ _ x _=>match cg st.t x with| .row _ _ _=>True| .slice _ .nil _=>m∈nw/\look (.obj m) st.b=none/\look (.obj m) st.e=none|_=>eF
 | .storeE _ _ _=>True
 | .mkmap _ none=>eF
 | .mkmap _ (some m)=>m∈nw/\look (.obj m) st.b=none/\look (.obj m) st.e=none
 | .mput _ _ _ _=>True
 | .range _ _ _=>eF
 | .bsl d _ _ _=>y4 n0 d st
 | .app d _ _ x _=>match cg st.t x with
  | .slice _ .nil _=>y4 n0 d st
  | .slice _ (.own k) _=>(look k st.e).bind (·.xs)=none
  |_=>True
def o1(n0:Nat):ep->aB
 | .mkmap _ (some m)=>.obj m
 | .appm _ (some m) _ _ _ _=>.obj m
 | .bslm _ (some m) _ _ _=>.obj m
 | .v d _| .box d _ _| .alloc d _ _| .bsl d _ _ _| .app d _ _ _ _| .bslm d _ _ _ _| .appm d _ _ _ _ _| .mkmap d _| .range d _ _| .mks d _ _ _ _ _| .apps d _ _ _=>.loc (n0+d)
 | .store _ _ _| .mput _ _ _ _| .storeE _ _ _=>.loc n0
def aly(nw:List Nat)(st:bn)(s a:cS)(rm:aZ aB):Prop:=(∀k,(look k a.b).isSome->(look k s.b).isSome\/rm=some k)/\(∀k,(look k a.e).isSome->(look k s.e).isSome\/rm=some k)/\(∀k,(look k s.b).isSome->(look k a.b).isSome)/\(∀k,(look k s.e).isSome->(look k a.e).isSome)/\
 (∀k,rm=some k->(∃j,j∈nw/\k= .obj j)/\look k st.b=none/\look k st.e=none/\((look k a.b).isSome\/(look k a.e).isSome))
def iY(P:cE)(q:Bool)(nw:List Nat)(n:Nat)(args:List ah)(st:bn)(d:aZ Nat)(K:bn->Prop):Prop:=
 (∃cX r,d=some cX/\y4 st.n cX st/\ay (fun _=>eF) args/\Kl P n (st.n+cX) args ⟨[],[]⟩ (fun b c=>b=r/\c=⟨[],[]⟩)/\K {st with t:=put cX r st.t,o:= .loc (st.n+cX)::st.o})\/
 ∃s a r rm,hs (inObs s) s.b st.b/\qc (inObs s) s.e st.e/\jv s/\jv a/\aly nw st s a rm/\ay (inObs s) args/\bG P n args s (fun b c=>b=r/\c=a)/\(q=true->a.b=[]/\a.e=[])/\K {after st s a d r with o:=st.o}
def jS(P:cE)(q:Bool)(nw:List Nat)(n0:Nat)(st:bn)(K:bn->Prop):et->Prop
 | .s i=>match eP (o1 n0 i) st.n (o1 n0 i::st.o) st i with
  |some (c,st')=>lQ q nw n0 st i/\c/\K st'
  |none=>eF
 | .call d f xs=>match cg st.t f with
  | .func n cW=>iY P q nw n (cR (xs.map (cg st.t)++cW)) st d K
  |_=>eF
 | .next _ _=>eF
 | .opn _ _ _=>eF
 | .callb _ _=>eF
def iC(P:cE)(q:Bool)(nw:List Nat)(n0:Nat):List ds->bn->(bn->Prop)->Prop
 |[],st,K=>K st
 |⟨none,i⟩::r,st,K=>jS P q nw n0 st (fun st'=>iC P q nw n0 r st' K) i
 |⟨some (s,want),i⟩::r,st,K=>match get s st.t with
  | .bool b=>(b=want->jS P q nw n0 {st with t:=put s (.bool want) st.t} (fun st'=>iC P q nw n0 r st' K) i)/\(b= !want->iC P q nw n0 r {st with t:=eY i.dst (.tuple []) (put s (.bool !want) st.t)} K)
  | .tuple []=>iC P q nw n0 r {st with t:=eY i.dst (.tuple []) st.t} K
  |_=>eF
structure uo (nw:List Nat) (n0 N:Nat) (oH:List aB) (st:bn) (A:dA):Prop where
 like:mw st A
 n:st.n=n0
 F:∀k,fresh n0 st.o k->(∀j∈nw,k≠ .obj j)->A.F k
 o:∀k∈st.o,k∈oH\/(∃d,d<N/\k= .loc (n0+d))\/ ∃j∈nw,k= .obj j
def C7(nw:List Nat)(A:dA):Prop:= ∀j∈nw,A.b (.obj j)=none->A.e (.obj j)=none->A.F (.obj j)
def C7.do{P:cE}{q:Bool}{n0:Nat}{nw:List Nat}{A:dA}(h:C7 nw A){g:ds}{x:lM}(i:lN P q n0 g A x):C7 nw (A.do x):=by
 intro j f ae he;refine⟨h j f (Ha ae) (Hb he),fun c=>?_⟩;rcases(Qm i).r _ c with⟨d,_,e⟩|⟨_,_,a⟩
 ·cases e
 ·rcases a with a|a
  ·obtain⟨y,b⟩:=gk.1 a;simp[dA.do,jo,b]at ae
  ·obtain⟨y,b⟩:=gk.1 a;simp[dA.do,jo,b]at he
def UB{P:cE}{q:Bool}{nw:List Nat}{n0 N:Nat}{oH:List aB}{i:et}(R:∀d,i.dst=some d->d<N){st:bn}{A:dA}(h:uo nw n0 N oH st A)(Z:C7 nw A){K:bn->Prop}(he:jS P q nw n0 st K i):∃x st',dZ P q n0 i A x/\K st'/\uo nw n0 N oH st' (A.do x):=by
 have a:=h.like;have S:∀d,y4 n0 d st->(A.F (.loc (n0+d))/\A.b (.loc (n0+d))=none/\A.e (.loc (n0+d))=none):=fun d E=>⟨h.F _ ⟨Ψ,E.1⟩ (fun _ _ e=>by cases e),by rw[<-a.b];exact E.2.1,by rw[<-a.e];exact E.2.2⟩;have G:∀(d:aZ Nat) (p:ah) (bw:List (aB×List ah)) (ew:List (aB×er)) (κ:aB),∀k,fresh n0 (κ::st.o) k->(∀j∈nw,k≠ .obj j)->(A.do ⟨d,p,bw,ew,some κ⟩).F k:=fun d p bw ew κ k b M=>⟨h.F k (uD k b).1 M,fun e=>(uD k b).2 (ft e).symm⟩;have O:∀(d:aZ Nat) (p:ah) (bw:List (aB×List ah)) (ew:List (aB×er)),∀k,fresh n0 st.o k->(∀j∈nw,k≠ .obj j)->(A.do ⟨d,p,bw,ew,none⟩).F k:=fun d p bw ew k b M=>⟨h.F k b M,Ψ⟩;have V:∀d,d<N->∀k∈aB.loc (n0+d)::st.o,k∈oH\/(∃d,d<N/\k= .loc (n0+d))\/ ∃j∈nw,k= .obj j:=fun d R k b=>by
  rcases gj.1 b with rfl|b
  ·exact .inr (.inl ⟨d,R,rfl⟩)
  ·exact h.o k b
 cases i with
 |s i=>
  cases i with
  |v d i=>
   simp only[jS,eP]at he;cases l:ht st i with
   |none=>simp[l]at he
   |some Lm=>
    obtain⟨c,p⟩:=Lm;simp only[l]at he;obtain⟨J,U,g⟩:=he;refine⟨⟨some d,p,[],[],none⟩,_,⟨c,p,by rw[<-abo a];exact l,U,fun o8=>?_,rfl⟩,g,NN a d p,h.n,O _ _ _ _,h.o⟩;cases i<;>simp only[gy.isLoad]at o8<;>try(cases o8;done)
    case mget=>exact .inr (.inl J)
    case ment=>exact .inr (.inl J)
    case mlen=>exact .inr (.inl J)
    case loadB=>exact .inl rfl
    case mgetB=>exact .inl rfl
    simp only[lQ,gy.loadO,iD a]at J;exact .inr (by simpa only[gy.ptrOf]using J)
  |box d key v=>
   cases key with
   |some m=>simp only[jS,eP,lQ,false_and]at he
   |none=>simp only[jS,eP,lQ,o1]at he;obtain⟨J,U,g⟩:=he;rw[iD a]at U;refine⟨_,_,⟨S d J,U,rfl⟩,g,?_,h.n,G _ _ _ _ _,V d (R d rfl)⟩;rw[iD a];exact B9 a d _ _ _ _ _ _
  |alloc d key z=>
   cases key with
   |some m=>simp only[jS,eP,lQ,false_and]at he
   |none=>simp only[jS,eP,lQ,o1]at he;obtain⟨J,U,g⟩:=he;exact⟨_,_,⟨S d J,rfl⟩,g,B9 a d _ _ _ _ _ _,h.n,G _ _ _ _ _,V d (R d rfl)⟩
  |store sz u v=>
   simp only[jS,eP]at he;cases hu:cg st.t u with
   |ptr k off=>
    cases ae:look k st.b with
    |none=>simp[hu,ae]at he
    |some cs=>simp only[hu,ae]at he;obtain⟨J,U,g⟩:=he;rw[iD a]at U hu;refine⟨⟨none,.junk,[(k,po cs off (cells (dF A.t v)))],[],none⟩,_,⟨k,off,cs,hu,by rw[<-a.b];exact ae,U,rfl⟩,g,?_,h.n,O _ _ _ _,h.o⟩;rw[iD a];exact IB a k _ _
   |_=>
    exfalso;simp only[hu]at he;split at he
    ·have:=he.1;simp[lQ,hu]at this
    ·exact he
  |bsl d sz el xs=>simp only[jS,eP,lQ,o1]at he;obtain⟨J,U,g⟩:=he;rw[re a]at U;refine⟨_,_,⟨S d J,U,rfl⟩,g,?_,h.n,G _ _ _ _ _,V d (R d rfl)⟩;rw[re a];exact qM a d _ _ _ _ _ _
  |app d sz el u v=>
   simp only[jS,eP]at he;cases hu:cg st.t u with
   |slice B tag xs=>
    cases l:cg st.t v with
    |slice D H ys=>
     simp only[hu,l]at he;by_cases t:B=sz/\D=sz
     ·obtain⟨rfl,rfl⟩:=t;rw[iD a]at hu l;cases tag with
      |no=>simp at he
      |tr k j=>simp at he
      |lo k=>simp at he
      |nil=>simp only[and_self,if_true,lQ,iD a,hu,o1]at he;obtain⟨J,U,g⟩:=he;exact⟨_,_,⟨.nil,xs,H,ys,hu,l,.inr ⟨rfl,U,S d J,rfl⟩⟩,g,qM a d _ _ _ _ _ _,h.n,G _ _ _ _ _,V d (R d rfl)⟩
      |own k=>
       cases b:look k st.e with
       |none=>simp[b]at he
       |some o=>simp only[and_self,if_true,b]at he;obtain⟨J,U,g⟩:=he;exact⟨_,_,⟨.own k,xs,H,ys,hu,l,.inl ⟨k,o,rfl,by rw[<-a.e];exact b,⟨by simpa[lQ,iD a,hu,b]using J,U⟩,rfl⟩⟩,g,qM a d _ _ _ _ _ _,h.n,O _ _ _ _,h.o⟩
     ·simp[t]at he
    |_=>simp[hu,l]at he
   |_=>simp[hu]at he
  |bslm d key sz el xs=>
   cases key with
   |none=>simp only[jS,eP,lQ,false_and]at he
   |some m=>
    simp only[jS,eP,lQ,o1]at he;obtain⟨⟨L,J,U⟩,a6,g⟩:=he;rw[a.b]at J;rw[a.e]at U;rw[re a]at a6;refine⟨_,_,⟨⟨Z m L J U,J,U⟩,a6,rfl⟩,g,?_,h.n,G _ _ _ _ _,fun k b=>?_⟩
    ·rw[re a];exact qM a d _ _ _ _ _ _
    rcases gj.1 b with rfl|b
    ·exact .inr (.inr ⟨m,L,rfl⟩)
    ·exact h.o k b
  |mks d key sz el z x=>simp only[jS,eP,lQ,false_and]at he;split at he<;>simp at he
  |apps d el x y=>simp only[jS,eP,lQ,false_and]at he;split at he<;>simp at he
  |appm d key sz el u v=>
   cases key with
   |some m=>
    simp only[jS,eP]at he;cases hu:cg st.t u with
    |slice B tag xs=>
     cases tag with
     |nil=>
      cases l:cg st.t v with
      |slice D H ys=>
       simp only[hu,l,nB]at he;by_cases t:B=sz/\D=sz
       ·obtain⟨rfl,rfl⟩:=t;simp only[and_self,if_true,lQ,hu,o1]at he;rw[iD a]at hu l;obtain⟨⟨L,J,U⟩,a6,g⟩:=he;rw[a.b]at J;rw[a.e]at U;refine⟨_,_,.inr ⟨xs,H,ys,hu,l,⟨Z m L J U,J,U⟩,a6,rfl⟩,g,qM a d _ _ _ _ _ _,h.n,G _ _ _ _ _,fun k b=>?_⟩;rcases gj.1 b with rfl|b
        ·exact .inr (.inr ⟨m,L,rfl⟩)
        ·exact h.o k b
       ·simp[t]at he
      |_=>simp[hu,l,nB]at he
     |_=>simp[hu,nB]at he
    |row B k n=>
     cases l:cg st.t v with
     |slice D H ys=>
      simp only[hu,l,nB]at he;by_cases t:B=sz/\D=sz
      ·obtain⟨rfl,rfl⟩:=t;rw[iD a]at hu l;simp only[and_self,if_true]at he;cases b:look k st.e with
       |none=>simp[b]at he
       |some o=>
        obtain⟨n',fi,Q,Y⟩:=o;cases Y with
        |none=>simp[b]at he
        |some xs=>
         simp only[b]at he;by_cases F:n'=n/\fi=el/\Q=D
         ·obtain⟨rfl,rfl,rfl⟩:=F;simp only[and_self,if_true]at he;obtain⟨J,U,g⟩:=he;exact⟨_,_,.inl ⟨k,n',xs,H,ys,hu,l,by rw[<-a.e];exact b,U,rfl⟩,g,qM a d _ _ _ _ _ _,h.n,O _ _ _ _,h.o⟩
         ·simp[F]at he
      ·simp[t]at he
     |_=>simp[hu,l,nB]at he
    |_=>simp[hu,nB]at he
   |none=>
   simp only[jS,eP]at he;cases hu:cg st.t u with
   |row B k n=>
    cases l:cg st.t v with
    |slice D H ys=>
     simp only[hu,l,nB]at he;by_cases t:B=sz/\D=sz
     ·obtain⟨rfl,rfl⟩:=t;rw[iD a]at hu l;simp only[and_self,if_true]at he;cases b:look k st.e with
      |none=>simp[b]at he
      |some o=>
       obtain⟨n',fi,Q,Y⟩:=o;cases Y with
       |none=>simp[b]at he
       |some xs=>
        simp only[b]at he;by_cases F:n'=n/\fi=el/\Q=D
        ·obtain⟨rfl,rfl,rfl⟩:=F;simp only[and_self,if_true]at he;obtain⟨J,U,g⟩:=he;exact⟨_,_,⟨k,n',xs,H,ys,hu,l,by rw[<-a.e];exact b,U,rfl⟩,g,qM a d _ _ _ _ _ _,h.n,O _ _ _ _,h.o⟩
        ·simp[F]at he
     ·simp[t]at he
    |_=>simp[hu,l,nB]at he
   |slice B tag xs=>
    exfalso;simp only[hu]at he;split at he
    ·have:=he.1;simp[lQ,hu]at this
    ·exact he
   |_=>simp[hu,nB]at he
  |storeE sz u v=>
   simp only[jS,eP]at he;cases hu:cg st.t u with
   |rptr B k n i f=>
    cases b:look k st.e with
    |none=>simp[hu,sF,b]at he
    |some o=>
     obtain⟨n',el,Q,Y⟩:=o;cases Y with
     |none=>simp[hu,sF,b]at he
     |some xs=>
      simp only[hu,sF,b]at he;by_cases F:n'=n/\Q=B
      ·obtain⟨rfl,rfl⟩:=F;simp only[and_self,if_true]at he;cases bA:xs[i]? with
       |none=>simp[bA]at he
       |some q=>simp only[bA]at he;obtain⟨J,U,g⟩:=he;rw[iD a]at U hu;refine⟨⟨none,.junk,[],[(k,⟨n',el,Q,some (xs.set i (nW q f (cells (dF A.t v))))⟩)],none⟩,_,⟨k,n',i,f,el,Q,xs,q,hu,by rw[<-a.e];exact b,bA,U,rfl⟩,g,?_,h.n,O _ _ _ _,h.o⟩;rw[iD a];exact Yc a k _ _
      ·simp[F]at he
   |_=>simp[hu,sF]at he
  |mkmap d key=>
   cases key with
   |none=>simp only[jS,eP,lQ,false_and]at he
   |some m=>
    simp only[jS,eP,lQ,o1]at he;obtain⟨⟨L,J,U⟩,_,g⟩:=he;rw[a.b]at J;rw[a.e]at U;refine⟨_,_,⟨⟨Z m L J U,J,U⟩,rfl⟩,g,B9 a d _ _ _ _ _ _,h.n,G _ _ _ _ _,fun k b=>?_⟩;rcases gj.1 b with rfl|b
    ·exact .inr (.inr ⟨m,L,rfl⟩)
    ·exact h.o k b
  |mput ct u k v=>
   simp only[jS,eP,lQ]at he;cases hu:cg st.t u with
   |gmap m=>
    cases ae:look m st.b with
    |none=>simp[hu,ae]at he
    |some cs=>
     cases hm:p5 ct (cg st.t k) (cg st.t v) cs with
     |none=>simp[hu,ae,hm]at he
     |some cs'=>simp only[hu,ae,hm]at he;rw[iD a]at hu;rw[iD a,iD a]at hm;exact⟨⟨none,.junk,[(m,cs')],[],none⟩,_,⟨m,cs,cs',hu,by rw[<-a.b];exact ae,hm,rfl⟩,he.2.2,IB a m _ _,h.n,O _ _ _ _,h.o⟩
   |_=>simp[hu]at he
  |range d key x=>simp only[jS,lQ,false_and]at he;split at he<;>exact he.elim
 |next d x=>simp only[jS]at he
 |opn d f x=>simp only[jS]at he
 |callb d f=>simp only[jS]at he
 |call d f xs=>
  simp only[jS]at he;cases E:cg st.t f with
  |func n cW=>
   simp only[E]at he;rw[iD a]at E;rcases he with⟨cX,r,rfl,bP,c2,c3,c4⟩|⟨s,X,r,rm,bP,c2,c3,c4,c5,qs,Dq,adC,c9⟩
   ·rw[re a]at c2 c3;have W:=h.n;subst W;refine⟨⟨some cX,r,[],[],some (.loc (st.n+cX))⟩,_,⟨n,cW,E,.inr ⟨cX,r,rfl,S cX bP,c2,c3,rfl⟩⟩,c4,Yd a cX r _ _,rfl,G _ _ _ _ _,V cX (R cX rfl)⟩
   rw[re a]at qs Dq;obtain⟨ba,bJ,cz,fv,dw⟩:=c5;refine⟨⟨d,r,X.b,X.e,rm⟩,_,⟨n,cW,E,.inl ⟨⟨s,X,r,rm,fun k cs b=>⟨by rw[<-a.b];exact(bP k cs b).1,(bP k cs b).2.2⟩,fun k o b=>⟨by rw[<-a.e];exact(c2 k o b).1,(c2 k o b).2.2⟩,c3,c4,⟨ba,bJ,cz,fv,fun k b=>?_⟩,qs,Dq,rfl⟩,adC⟩⟩,c9,⟨fun i=>?_,fun k=>?_,fun k=>?_⟩,h.n,fun k b M=>⟨h.F k b M,fun qv=>?_⟩,h.o⟩
   ·obtain⟨⟨j,M,rfl⟩,aC,bo,cY⟩:=dw k b;rw[a.b]at aC;rw[a.e]at bo;exact⟨⟨j,rfl⟩,Z j M aC bo,aC,bo,cY⟩
   ·simp only[after,dA.do];cases d with
    |none=>simpa[eY]using a.t i
    |some d=>simp only[eY,pS,dz,a.t]
   ·simp only[after,dA.do,jo,zV,u3];by_cases w:(look k s.b).isSome
    ·have:=cz k w;obtain⟨y,aO⟩:=gk.1 this;simp[w,aO]
    ·cases W:look k X.b with
     |none=>simp only[w,a.b];cases A.b k<;>simp
     |some y=>
      rcases ba k (by simp[W])with h|h
      ·exact absurd h w
      ·have:=dw k h;simp[w,this]
   ·simp only[after,dA.do,jo,zV,u3];by_cases w:(look k s.e).isSome
    ·have:=fv k w;obtain⟨y,aO⟩:=gk.1 this;simp[w,aO]
    ·cases W:look k X.e with
     |none=>simp only[w,a.e];cases A.e k<;>simp
     |some y=>
      rcases bJ k (by simp[W])with h|h
      ·exact absurd h w
      ·have:=dw k h;simp[w,this]
   ·obtain⟨⟨j,hM,rfl⟩,_⟩:=dw k qv;exact M j hM rfl
  |_=>simp[E]at he
def A9(N:Nat):List ds->Bool
 |[]=>true
 |g::r=>h9 N g.i.dst&&A9 N r
def AJ:Nat->List ds->List (Nat×ds)
 |_,[]=>[]
 |k,g::r=>(k,g)::AJ (k+1) r
def Rf{nw:List Nat}{n0 N:Nat}{a:List aB}{st:bn}{A:dA}(h:uo nw n0 N a st A){s:Nat}{p:ah}(b:get s st.t=p):uo nw n0 N a {st with t:=put s p st.t} A:=by
 refine⟨⟨fun i=>?_,h.like.b,h.like.e⟩,h.n,h.F,h.o⟩;simp only[pS];split
 ·rename_i e;subst e;rw[<-b];exact h.like.t _
 ·exact h.like.t i
def Rg{nw:List Nat}{n0 N:Nat}{a:List aB}{st:bn}{A:dA}(h:uo nw n0 N a st A)(d:aZ Nat):uo nw n0 N a {st with t:=eY d (.tuple []) st.t} (A.do (mq d)):=by
 refine⟨⟨fun i=>?_,fun k=>?_,fun k=>?_⟩,h.n,fun k c b=>⟨h.F k c b,by simp[mq]⟩,h.o⟩
 ·simp only[dA.do,mq];cases d with
  |none=>simpa[eY]using h.like.t i
  |some d=>simp only[eY,pS,dz,h.like.t]
 ·simpa[dA.do,jo,look,mq]using h.like.b k
 ·simpa[dA.do,jo,look,mq]using h.like.e k
def DE{P:cE}{q:Bool}{nw:List Nat}{n0 N:Nat}{j:List aB}{K:bn->Prop}:∀(gs:List ds) (k:Nat),A9 N gs=true->∀(st:bn) (A:dA),uo nw n0 N j st A->C7 nw A->iC P q nw n0 gs st K->xp P q n0 (fun A'=> ∃st',K st'/\uo nw n0 N j st' A') (AJ k gs) A
 |[],k,_,st,A,h,_,he=>⟨st,he,h⟩
 |⟨l,i⟩::r,k,c,st,A,h,a,he=>by
  simp only[A9,cD]at c;have g:∀d,i.dst=some d->d<N:=fun d e=>by have:=c.1;rw[e]at this;simpa[h9]using this
  simp only[AJ,xp];cases l with
  |none=>simp only[iC]at he;obtain⟨x,st',J,U,f⟩:=UB g h a he;have a1:lN P q n0 ⟨none,i⟩ A x:=J;exact⟨x,a1,DE r (k+1) c.2 st' _ f (a.do a1) U⟩
  |some n=>
   obtain⟨s,want⟩:=n;simp only[iC]at he;split at he
   ·rename_i b ae;by_cases e:b=want
    ·subst e;obtain⟨x,st',J,U,f⟩:=UB g (Rf h ae) a (he.1 rfl);have a1:lN P q n0 ⟨some (s,b),i⟩ A x:=by unfold lN;simp only[<-h.like.t,ae];exact .inl ⟨trivial,J⟩
     exact⟨x,a1,DE r (k+1) c.2 st' _ f (a.do a1) U⟩
    ·have m:b= !want:=by cases b<;>cases want<;>simp at e⊢
     subst m;have a1:lN P q n0 ⟨some (s,want),i⟩ A (mq i.dst):=by unfold lN;simp only[<-h.like.t,ae];exact .inr ⟨trivial,trivial⟩
     exact⟨mq i.dst,a1,DE r (k+1) c.2 _ _ (Rg (Rf h ae) i.dst) (a.do a1) (he.2 rfl)⟩
   ·rename_i ae;have a1:lN P q n0 ⟨some (s,want),i⟩ A (mq i.dst):=by unfold lN;simp only[<-h.like.t,ae]
    exact⟨mq i.dst,a1,DE r (k+1) c.2 _ _ (Rg h i.dst) (a.do a1) he⟩
   ·exact he.elim
def Pp:∀(gs:List ds) (l:Array Bool) (k:Nat),(∀j,l.getD j false=false)->rem l k gs=AJ k gs
 |[],_,_,_=>rfl
 |g::r,l,k,h=>by simp only[rem,h k,AJ,Pp r l (k+1) h];simp
def vq(n:Nat)(o:List aB)(K:bn->Prop)(st:bn):Prop:=K {st with n:=n,o:=o}
def Good.like{pr:Nat->Prop}{w:World}{Z:a8}{b cf:List (aB×List ah)}{e c:List (aB×er)}(h:Good pr w Z b e)(ae:∀k,look k cf=look k b)(he:∀k,look k c=look k e):Good pr w Z cf c:=
 ⟨h.alt,fun k cs i=>h.box k cs (by rw[<-ae];exact i),fun k f bl J U=>h.inj k f bl (by rw[<-ae];exact J) (by rw[<-ae];exact U),fun g o a1=>h.own g o (by rw[<-he];exact a1),
  fun g d n n' v v' bl J U=>h.oinj g d n n' v v' bl (by rw[<-he];exact J) (by rw[<-he];exact U),fun g k n v bl J U=>h.obx g k n v bl (by rw[<-he];exact J) (by rw[<-ae];exact U),h.one,
  fun bl aM=>h.otr bl (aM.imp (fun⟨k,a,a2⟩=>⟨k,by rw[<-ae];exact a,a2⟩) (fun⟨g,n,v,a,a2⟩=>⟨g,n,v,by rw[<-he];exact a,a2⟩))⟩
def UD{P:cE}(hm:P.follows .mixedOrders=true){aT:List (Nat×eJ)}(aM:hl P aT=true){C:fb}{q:Bool}{nw:List Nat}{id:Nat}{ops:Array Oper}{gs:List ds}(v:lh C.N aT ops.toList gs ops.toList=true)(L:Di gs ops.toList=true)(E:A9 C.N gs=true)
  {K:bn->Prop} {Q:Exit->Act->World->Prop} (D:∀st' bu w' Z',K st'->cZ C st' bu w' Z'->Q .normal bu w') {st:bn} {a:Act} {w:World} {Z:a8} (t:∀j∈nw,.obj j∉st.o) (he:iC P q nw st.n gs st (vq (st.n+C.N) (nw.map aB.obj++st.o) K)) (J:cZ C st a w Z):(Code.region id ops true).wp P Q a w:=by
 refine wp_region_any hm ?_;have x:cZ C st a {w with drawn:=w.drawn+1} Z:=J.drawn _;let A:dA:=⟨fun i=>get i st.t,fun k=>look k st.b,fun k=>look k st.e,fresh st.n st.o⟩
 have u:uo nw st.n C.N st.o st A:=⟨⟨fun _=>rfl,fun _=>rfl,fun _=>rfl⟩,rfl,fun k b _=>b,fun k b=>.inl b⟩;have z:=DE gs 0 E st A u (fun j n _ _=>⟨trivial,t j n⟩) he;have p:∀j,(Array.replicate ops.size false).getD j false=false:=fun j=>by simp[Array.getD_eq_getD_getElem?,Array.getElem?_replicate];split<;>rfl
 refine ac5 aM v L (q:=q) (n0:=st.n) (K:=fun A'=> ∃st',vq (st.n+C.N) (nw.map aB.obj++st.o) K st'/\uo nw st.n C.N st.o st' A') ?_ ops.size _ A a _ Ψ ?_ ?_ (by rw[Pp gs _ 0 p];exact z) ⟨st,Z,u.like,fun k b=>b,x⟩
 ·rintro A' bu w' ⟨st',b,l⟩ ⟨G,Z',s,M,c⟩;refine D _ bu w' Z' b ⟨c.good.like (fun k=>by rw[s.b,<-l.like.b]) (fun k=>by rw[s.e,<-l.like.e]),c.fr,c.defers,c.size,fun i=>?_,fun k f=>?_,c.ext,fun m hm H=>x.obk m hm (y5 (Nat.le_add_right _ _) (fun _ h=>List.mem_append_right _ h) H)⟩
  ·have:=c.slot i;rw[s.t,<-l.like.t]at this;exact this
  ·refine c.new k (M k (l.F k ?_ fun j n e=>f.2 (by subst e;exact sQ _ (List.mem_map_of_mem n))));simp only at f;refine⟨(y5 (Nat.le_add_right st.n C.N) (fun _ h=>h) f).1,fun B=>?_⟩;rcases l.o k B with h|⟨d,N,rfl⟩|⟨j,n,rfl⟩;rotate_left 2
   ·exact f.2 (sQ _ (List.mem_map_of_mem n))
   ·exact f.2 (List.mem_append_right _ h)
   ·have:=f.1;simp at this;omega
 ·intro k o b y;rw[p]at y;cases y
 ·rw[Pp gs _ 0 p];have:∀(gs:List ds) k,(AJ k gs).length=gs.length:=by
   intro gs;induction gs with
   |nil=>intro k;rfl
   |cons g r F=>intro k;simp[AJ,F]
  rw[this];have:=Md v;simp at this;omega
mutual
def hD:ah->List (aB×Nat)
 | .slice _ tag _=>match tag with| .tr k i=>[(k,i)]|_=>[]
 | .agg cs=>lF cs
 |_=>[]
def lF:List ah->List (aB×Nat)
 |[]=>[]
 |x::xs=>hD x++lF xs
end
mutual
def mn:ah->Prop
 | .int _ _=>True
 | .bool _=>True
 | .str _=>True
 | .slice _ tag xs=>match tag with| .tr k _=>k≠vg|_=>xs=[]
 | .agg cs=>u9 cs
 |_=>eF
def u9:List ah->Prop
 |[]=>True
 |x::xs=>mn x/\u9 xs
end
def mL(Z:a8)(l:List (aB×Nat))(b:Nat):Prop:= ∃k i,(k,i)∈l/\Z.tr k i b
def Cl{Z:a8}{l a:List (aB×Nat)}(h:∀x∈l,x∈a)(b:Nat)(ae:mL Z l b):mL Z a b:=by obtain⟨k,i,J,U⟩:=ae;exact⟨k,i,h _ J,U⟩
def Og{Z:a8}(gX:∀k j a c b,Z.tr k j b->Z.tr a c b->k=a/\j=c){l d:List (aB×Nat)}(h:(l++d).Nodup)(b:Nat)(J:mL Z l b):¬mL Z d b:=by rintro⟨a,e,f,g⟩;obtain⟨k,i,J,U⟩:=J;obtain⟨rfl,rfl⟩:=gX k i a e b U g;rw[rS]at h;exact h.2.2 _ J _ f rfl
mutual
def Oq{w:World}{Z:a8}(gX:∀k j d c b,Z.tr k j b->Z.tr d c b->k=d/\j=c):∀(p:ah) (v:Value),aV w Z p v->mn p->(hD p).Nodup->ej true w Z.A (mL Z (hD p)) (de p) v
 | .int k n,v,h,_,_=>by simpa only[aV,de,ej]using h
 | .bool b,v,h,_,_=>by simpa only[aV,de,ej]using h
 | .str s,v,h,_,_=>by simpa only[aV,de,ej]using h
 | .slice sz tag xs,v,h,al,_=>by
  simp only[aV]at h;obtain⟨⟨a,cap,J,U,g,m⟩,_,_,f,_⟩:=h;by_cases aM:∃k i,tag= .tr k i
  ·obtain⟨k,i,rfl⟩:=aM;refine Ht _ _ v (y6 (fun _ _ h=>⟨h,rfl⟩) (fun _ _ _=>rfl) _ _ _ v (fun b ae=>?_) (f k i rfl));exact⟨k,i,by simp[hD],ae⟩
  ·have l:xs=[]:=by
    simp only[mn]at al;split at al
    ·exact absurd ⟨_,_,rfl⟩ aM
    ·exact al
   subst l;simp only[de,cR,ej];exact⟨a,cap,J,U,g,.inl trivial⟩
 | .agg cs,v,h,al,e=>by simp only[aV,mn,hD,de,ej]at h al e⊢;obtain⟨us,J,U⟩:=h;exact⟨us,J,YS gX cs _ U al e⟩
 | .junk,_,_,al,_=>by simp[mn]at al
 | .ptr _ _,_,_,al,_=>by simp[mn]at al
 | .eptr _,_,_,al,_=>by simp[mn]at al
 | .iface _ _,_,_,al,_=>by simp[mn]at al
 | .nilp,_,_,al,_=>by simp[mn]at al
 | .tuple _,_,_,al,_=>by simp[mn]at al
 | .func _ _,_,_,al,_=>by simp[mn]at al
 | .gmap _,_,_,al,_=>by simp[mn]at al
 | .row _ _ _,_,_,al,_=>by simp[mn]at al
 | .rptr _ _ _ _ _,_,_,al,_=>by simp[mn]at al
 | .hdm _ _,_,_,al,_=>by simp[mn]at al
 | .hdi _ _ _,_,_,al,_=>by simp[mn]at al
 | .cst _,_,_,al,_=>by simp[mn]at al
def YS{w:World}{Z:a8}(gX:∀k j g f b,Z.tr k j b->Z.tr g f b->k=g/\j=f):∀(cs:List ah) (us:List Value),c1 w Z cs us->u9 cs->(lF cs).Nodup->pR true w Z.A (mL Z (lF cs)) (cR cs) us
 |[],us,h,_,_=>by simpa only[c1,cR,pR]using h
 |c::cs,us,h,al,a=>by simp only[c1,u9,lF,cR,pR]at h al a⊢;obtain⟨u,i,J,⟨U,l⟩,m⟩:=h;have e:=rS.1 a;exact⟨u,i,mL Z (hD c),mL Z (lF cs),J,⟨Cl (fun x d=>sQ _ d),Cl (fun x d=>List.mem_append_right _ d),fun _ b ae=>Og gX a b ae⟩,⟨Oq gX c u U al.1 e.1,l⟩,YS gX cs i m al.2 e.2.1⟩
end
def Ot{w:World}{Z:a8}(gX:∀k j g f b,Z.tr k j b->Z.tr g f b->k=g/\j=f){sz:Nat}:∀(cs:List ah) (us:List Value),dk w Z sz cs us->u9 cs->(lF cs).Nodup->pQ true w Z.A (mL Z (lF cs)) sz (cR cs) us
 |[],us,h,_,_=>by simpa only[dk,cR,pQ]using h
 |c::cs,us,h,al,a=>by simp only[dk,u9,lF,cR,pQ]at h al a⊢;obtain⟨u,i,J,⟨U,l⟩,m⟩:=h;have e:=rS.1 a;exact⟨u,i,mL Z (hD c),mL Z (lF cs),J,⟨Cl (fun x d=>sQ _ d),Cl (fun x d=>List.mem_append_right _ d),fun _ b ae=>Og gX a b ae⟩,⟨Oq gX c u U al.1 e.1,l⟩,Ot gX cs i m al.2 e.2.1⟩
mutual
def L2{t:Bool}{w:World}{A:Nat->Nat->Prop}{Z:a8}(bj:∀b o,A b o->Z.A b o):∀(p:ah) (F:Nat->Prop) (v:Value),ej t w A F p v->aV w Z (de p) v
 | .int k n,_,_,h=>by simpa only[aV,de,ej]using h
 | .bool b,_,_,h=>by simpa only[aV,de,ej]using h
 | .str s,_,_,h=>by simpa only[aV,de,ej]using h
 | .slice sz tag xs,F,v,h=>by
  simp only[ej,de,aV]at h⊢;obtain⟨a,cap,J,U,f,j⟩:=h;refine⟨⟨a,cap,by rw[nX];exact J,by rw[nX];exact U,by rw[nX];exact f,?_⟩,fun e=>(by cases e),fun g e=>(by cases e),fun _ _ e=>(by cases e),fun _ e=>(by cases e)⟩;rcases j with rfl|⟨b,off,us,G,i,_,_,d,_,c⟩
  ·exact .inl rfl
  ·exact .inr ⟨b,off,us,i,x5 (fun b o h=>⟨bj b o h,rfl⟩) _ _ d,Vi bj xs G us c⟩
 | .agg cs,F,v,h=>by simp only[ej,de,aV]at h⊢;obtain⟨us,J,U⟩:=h;exact⟨us,J,Vk bj cs F _ U⟩
 | .junk,_,_,h=>by simp[ej]at h
 | .ptr _ _,_,_,h=>by simp[ej]at h
 | .eptr _,_,_,h=>by simp[ej]at h
 | .iface _ _,_,_,h=>by simp[ej]at h
 | .nilp,_,_,h=>by simp[ej]at h
 | .tuple _,_,_,h=>by simp[ej]at h
 | .func _ _,_,_,h=>by simp[ej]at h
 | .gmap _,_,_,h=>by simp[ej]at h
 | .row _ _ _,_,_,h=>by simp[ej]at h
 | .rptr _ _ _ _ _,_,_,h=>by simp[ej]at h
 | .hdm _ _,_,_,h=>by simp[ej]at h
 | .hdi _ _ _,_,_,h=>by simp[ej]at h
 | .cst _,_,_,h=>by simp[ej]at h
def Vk{t:Bool}{w:World}{A:Nat->Nat->Prop}{Z:a8}(bj:∀b o,A b o->Z.A b o):∀(cs:List ah) (F:Nat->Prop) (us:List Value),pR t w A F cs us->c1 w Z (cR cs) us
 |[],_,_,h=>by simpa only[pR,cR,c1]using h
 |c::cs,F,us,h=>by simp only[pR,cR,c1]at h⊢;obtain⟨u,a,e,d,J,_,⟨i,g⟩,f⟩:=h;exact⟨u,a,J,⟨L2 bj c e u i,g⟩,Vk bj cs d a f⟩
def Vi{t:Bool}{w:World}{A:Nat->Nat->Prop}{Z:a8}(bj:∀b o,A b o->Z.A b o){sz:Nat}:∀(cs:List ah) (F:Nat->Prop) (us:List Value),pQ t w A F sz cs us->dk w Z sz (cR cs) us
 |[],_,_,h=>by simpa only[pQ,cR,dk]using h
 |c::cs,F,us,h=>by simp only[pQ,cR,dk]at h⊢;obtain⟨u,a,e,d,J,_,⟨i,g⟩,f⟩:=h;exact⟨u,a,J,⟨L2 bj c e u i,g⟩,Vi bj cs d a f⟩
end
mutual
def P4:∀p:ah,de (de p)=de p
 | .slice _ _ xs=>by simp[de,yq xs]
 | .agg cs=>by simp[de,yq cs]
 | .tuple bf=>by simp[de,yq bf]
 | .eptr x=>by simp[de,P4 x]
 | .iface t x=>by simp[de,P4 x]
 | .func f cW=>by simp[de,yq cW]
 | .junk=>rfl
 | .int _ _=>rfl
 | .bool _=>rfl
 | .str _=>rfl
 | .ptr _ _=>rfl
 | .nilp=>rfl
 | .gmap _=>rfl
 | .row _ _ _=>rfl
 | .rptr _ _ _ _ _=>rfl
 | .hdm _ _=>rfl
 | .hdi _ _ _=>rfl
 | .cst _=>rfl
def yq:∀xs:List ah,cR (cR xs)=cR xs
 |[]=>rfl
 |x::xs=>by simp[cR,P4 x,yq xs]
end
mutual
def fZ:ah->List aB
 | .slice _ tag _=>match tag with| .own k=>[k]|_=>[]
 | .row _ k _=>[k]
 | .agg cs=>pn cs
 | .tuple cs=>pn cs
 |_=>[]
def pn:List ah->List aB
 |[]=>[]
 |x::xs=>fZ x++pn xs
end
def wU(e:List (aB×er))(k:aB):List ah:=((look k e).bind (·.xs)).getD []
mutual
def hj(e:List (aB×er)):ah->List (aB×Nat)
 | .slice _ tag xs=>match tag with| .tr k i=>[(k,i)]| .own _=>lF xs|_=>[]
 | .row _ k _=>lF (wU e k)
 | .agg cs=>qQ e cs
 | .tuple cs=>qQ e cs
 |_=>[]
def qQ(e:List (aB×er)):List ah->List (aB×Nat)
 |[]=>[]
 |x::xs=>hj e x++qQ e xs
end
mutual
def jw(e:List (aB×er)):ah->Prop
 | .int _ _=>True
 | .bool _=>True
 | .str _=>True
 | .slice sz tag xs=>match tag with| .tr k _=>k≠vg| .own k=>True/\(∃el,look k e=some ⟨xs.length,el,sz,none⟩)/\u9 xs/\0<sz|_=>xs=[]
 | .row sz k n=>True/\(∃xs el,look k e=some ⟨n,el,sz,some xs⟩/\u9 xs)/\0<sz
 | .agg cs=>tN e cs
 | .tuple cs=>tN e cs
 |_=>eF
def tN(e:List (aB×er)):List ah->Prop
 |[]=>True
 |x::xs=>jw e x/\tN e xs
end
mutual
def vF:ah->Nat
 | .slice _ _ _=>1
 | .row _ _ _=>1
 | .agg cs=>Dy cs
 | .tuple cs=>Dy cs
 |_=>0
def Dy:List ah->Nat
 |[]=>0
 |x::xs=>vF x+Dy xs
end
mutual
def fold(κ:Nat)(e:List (aB×er)):Nat->ah->ah
 |j,.slice sz _ xs=>.slice sz (.tr (.loc κ) j) (cR xs)
 |j,.row sz k _=>.slice sz (.tr (.loc κ) j) (cR (wU e k))
 |j,.agg cs=>.agg (vO κ e j cs)
 |j,.tuple cs=>.tuple (vO κ e j cs)
 |_,p=>p
def vO(κ:Nat)(e:List (aB×er)):Nat->List ah->List ah
 |_,[]=>[]
 |j,x::xs=>fold κ e j x::vO κ e (j+vF x) xs
end
def nV(Z:a8)(k:aB)(b:Nat):Prop:= ∃n v,Z.ow k=some (n,v)/\v.ownBlock=some b
mutual
def fw(Z:a8)(R:Nat->Prop)(e:List (aB×er)):ah->List (Nat->Prop)
 | .slice _ tag xs=>match tag with| .tr k i=>[fun b=>Z.tr k i b/\¬R b]| .own k=>[fun b=>nV Z k b\/(mL Z (lF xs) b/\¬R b)]|_=>[fun _=>eF]
 | .row _ k _=>[fun b=>nV Z k b\/(mL Z (lF (wU e k)) b/\¬R b)]
 | .agg cs=>pq Z R e cs
 | .tuple cs=>pq Z R e cs
 |_=>[]
def pq(Z:a8)(R:Nat->Prop)(e:List (aB×er)):List ah->List (Nat->Prop)
 |[]=>[]
 |x::xs=>fw Z R e x++pq Z R e xs
end
mutual
def AA(Z:a8)(R:Nat->Prop)(e:List (aB×er)):∀p,(fw Z R e p).length=vF p
 | .slice _ tag _=>by cases tag<;>simp[fw,vF]
 | .row _ k _=>by simp[fw,vF]
 | .agg cs=>by simp[fw,vF,PW Z R e cs]
 | .tuple cs=>by simp[fw,vF,PW Z R e cs]
 | .int _ _=>rfl
 | .bool _=>rfl
 | .str _=>rfl
 | .junk=>rfl
 | .ptr _ _=>rfl
 | .eptr _=>rfl
 | .iface _ _=>rfl
 | .nilp=>rfl
 | .func _ _=>rfl
 | .gmap _=>rfl
 | .rptr _ _ _ _ _=>rfl
 | .hdm _ _=>rfl
 | .hdi _ _ _=>rfl
 | .cst _=>rfl
def PW(Z:a8)(R:Nat->Prop)(e:List (aB×er)):∀p,(pq Z R e p).length=Dy p
 |[]=>rfl
 |x::xs=>by simp[pq,Dy,AA Z R e x,PW Z R e xs]
end
def Hq(Z:a8)(R:Nat->Prop)(ns:List (aB×Nat))(rw:List aB)(b:Nat):Prop:=(∃k∈rw,nV Z k b)\/(mL Z ns b/\¬R b)
mutual
def JW{Z:a8}{R:Nat->Prop}{e:List (aB×er)}:∀(p:ah) (i:Nat) (S:Nat->Prop),(fw Z R e p)[i]? =some S->∀b,S b->Hq Z R (hj e p) (fZ p) b
 | .slice _ tag _,i,S,h,b,ae=>by
  cases tag<;>(simp only[fw]at h;cases i<;>simp at h;subst h);all_goals first|exact ae.elim|skip
  ·rcases ae with ae|ae
   ·exact .inl ⟨_,by simp[fZ],ae⟩
   ·exact .inr (by simpa only[hj]using ae)
  ·exact .inr ⟨⟨_,_,by simp[hj],ae.1⟩,ae.2⟩
 | .row _ k _,i,S,h,b,ae=>by
  simp only[fw]at h;cases i<;>simp at h;subst h;rcases ae with ae|ae
  ·exact .inl ⟨k,by simp[fZ],ae⟩
  ·exact .inr (by simpa only[hj]using ae)
 | .agg cs,i,S,h,b,ae=>by simp only[fw,hj,fZ]at h⊢;exact F1 cs i S h b ae
 | .tuple cs,i,S,h,b,ae=>by simp only[fw,hj,fZ]at h⊢;exact F1 cs i S h b ae
 | .int _ _,_,_,h,_,_=>by simp[fw]at h
 | .bool _,_,_,h,_,_=>by simp[fw]at h
 | .str _,_,_,h,_,_=>by simp[fw]at h
 | .junk,_,_,h,_,_=>by simp[fw]at h
 | .ptr _ _,_,_,h,_,_=>by simp[fw]at h
 | .eptr _,_,_,h,_,_=>by simp[fw]at h
 | .iface _ _,_,_,h,_,_=>by simp[fw]at h
 | .nilp,_,_,h,_,_=>by simp[fw]at h
 | .func _ _,_,_,h,_,_=>by simp[fw]at h
 | .gmap _,_,_,h,_,_=>by simp[fw]at h
 | .rptr _ _ _ _ _,_,_,h,_,_=>by simp[fw]at h
 | .hdm _ _,_,_,h,_,_=>by simp[fw]at h
 | .hdi _ _ _,_,_,h,_,_=>by simp[fw]at h
 | .cst _,_,_,h,_,_=>by simp[fw]at h
def F1{Z:a8}{R:Nat->Prop}{e:List (aB×er)}:∀(p:List ah) (i:Nat) (S:Nat->Prop),(pq Z R e p)[i]? =some S->∀b,S b->Hq Z R (qQ e p) (pn p) b
 |[],i,S,h,b,ae=>by simp[pq]at h
 |x::xs,i,S,h,b,ae=>by
  simp only[pq]at h;simp only[qQ,pn];by_cases hi:i<(fw Z R e x).length
  ·rw[rQ hi]at h;rcases JW x i S h b ae with⟨k,J,U⟩|⟨J,U⟩
   ·exact .inl ⟨k,sQ _ J,U⟩
   ·exact .inr ⟨Cl (fun _ h=>sQ _ h) b J,U⟩
  ·rw[List.getElem?_append_right Ω]at h;rcases F1 xs _ S h b ae with⟨k,J,U⟩|⟨J,U⟩
   ·exact .inl ⟨k,List.mem_append_right _ J,U⟩
   ·exact .inr ⟨Cl (fun _ h=>List.mem_append_right _ h) b J,U⟩
end
structure C4 (Z:a8) (R:Nat->Prop) (rw:List aB):Prop where
 trd:∀k j bt dj b,Z.tr k j b->Z.tr bt dj b->k=bt/\j=dj
 inj:∀k bt b,k∈rw->bt∈rw->nV Z k b->nV Z bt b->k=bt
 R:∀k b,k∈rw->nV Z k b->R b
def Vh{Z:a8}{R:Nat->Prop}{rw:List aB}(he:C4 Z R rw){i j:List (aB×Nat)}{h g:List aB}(m:(i++j).Nodup)(n:(h++g).Nodup)(J:∀k∈h,k∈rw)(U:∀k∈g,k∈rw)(b:Nat)(ae:Hq Z R i h b):¬Hq Z R j g b:=by
 rintro l;rcases ae with⟨k,c,f⟩|⟨c,f⟩<;>rcases l with⟨e,a,d⟩|⟨a,d⟩
 ·have:=he.inj k e b (J k c) (U e a) f d;subst this;exact(rS.1 n).2.2 _ c _ a rfl
 ·exact d (he.R k b (J k c) f)
 ·exact f (he.R e b (U e a) d)
 ·exact Og he.trd m b c a
mutual
def aaW{Z:a8}{R:Nat->Prop}{rw:List aB}(he:C4 Z R rw){e:List (aB×er)}:∀(p:ah),(hj e p).Nodup->(fZ p).Nodup->(∀k∈fZ p,k∈rw)->∀(i d:Nat) (S c:Nat->Prop),(fw Z R e p)[i]? =some S->(fw Z R e p)[d]? =some c->∀b,S b->c b->i=d
 | .slice sz tag xs,_,_,_,i,d,S,c,h,a,b,_,_=>by have m:(fw Z R e (.slice sz tag xs)).length=1:=AA Z R e _;have:=(fp.1 h).1;have:=(fp.1 a).1;omega
 | .row sz k n,_,_,_,i,d,S,c,h,a,b,_,_=>by have m:(fw Z R e (.row sz k n)).length=1:=AA Z R e _;have:=(fp.1 h).1;have:=(fp.1 a).1;omega
 | .agg cs,f,j,g,i,d,S,c,h,a,b,ae,l=>by simp only[fw,hj,fZ]at h a f j g;exact PV he cs f j g i d S c h a b ae l
 | .tuple cs,f,j,g,i,d,S,c,h,a,b,ae,l=>by simp only[fw,hj,fZ]at h a f j g;exact PV he cs f j g i d S c h a b ae l
 | .int _ _,_,_,_,_,_,_,_,h,_,_,_,_=>by simp[fw]at h
 | .bool _,_,_,_,_,_,_,_,h,_,_,_,_=>by simp[fw]at h
 | .str _,_,_,_,_,_,_,_,h,_,_,_,_=>by simp[fw]at h
 | .junk,_,_,_,_,_,_,_,h,_,_,_,_=>by simp[fw]at h
 | .ptr _ _,_,_,_,_,_,_,_,h,_,_,_,_=>by simp[fw]at h
 | .eptr _,_,_,_,_,_,_,_,h,_,_,_,_=>by simp[fw]at h
 | .iface _ _,_,_,_,_,_,_,_,h,_,_,_,_=>by simp[fw]at h
 | .nilp,_,_,_,_,_,_,_,h,_,_,_,_=>by simp[fw]at h
 | .func _ _,_,_,_,_,_,_,_,h,_,_,_,_=>by simp[fw]at h
 | .gmap _,_,_,_,_,_,_,_,h,_,_,_,_=>by simp[fw]at h
 | .rptr _ _ _ _ _,_,_,_,_,_,_,_,h,_,_,_,_=>by simp[fw]at h
 | .hdm _ _,_,_,_,_,_,_,_,h,_,_,_,_=>by simp[fw]at h
 | .hdi _ _ _,_,_,_,_,_,_,_,h,_,_,_,_=>by simp[fw]at h
 | .cst _,_,_,_,_,_,_,_,h,_,_,_,_=>by simp[fw]at h
def PV{Z:a8}{R:Nat->Prop}{rw:List aB}(he:C4 Z R rw){e:List (aB×er)}:∀(p:List ah),(qQ e p).Nodup->(pn p).Nodup->(∀k∈pn p,k∈rw)->∀(i d:Nat) (S c:Nat->Prop),(pq Z R e p)[i]? =some S->(pq Z R e p)[d]? =some c->∀b,S b->c b->i=d
 |[],_,_,_,i,d,S,c,h,_,_,_,_=>by simp[pq]at h
 |x::xs,f,g,o,i,d,S,c,h,a,b,ae,j=>by
  simp only[pq]at h a;simp only[qQ]at f;simp only[pn]at g o;have m:∀k∈fZ x,k∈rw:=fun k l=>o k (sQ _ l);have n:∀k∈pn xs,k∈rw:=fun k l=>o k (List.mem_append_right _ l);by_cases hi:i<(fw Z R e x).length<;>by_cases q:d<(fw Z R e x).length
  ·rw[rQ hi]at h;rw[rQ q]at a;exact aaW he x (rS.1 f).1 (rS.1 g).1 m i d S c h a b ae j
  ·rw[rQ hi]at h;rw[List.getElem?_append_right Ω]at a;exact absurd (F1 xs _ c a b j) (Vh he f g m n b (JW x i S h b ae))
  ·rw[List.getElem?_append_right Ω]at h;rw[rQ q]at a;exact absurd (F1 xs _ S h b ae) (Vh he f g m n b (JW x d c a b j))
  ·rw[List.getElem?_append_right Ω]at h a;have:=PV he xs (rS.1 f).2.1 (rS.1 g).2.1 n _ _ S c h a b ae j;omega
end
end
section
open Go Go.RowKit
def Qn{w:World}{μ:a8}{k:aB}{j sz:Nat}{tag:AO}{ys:List ah}{v:Value}(h:ej true w μ.A (μ.tr k j) (.slice sz tag ys) v)(a:cR ys=ys):aV w μ (.slice sz (.tr k j) ys) v:=by have J:=L2 (Z:=μ) (fun _ _ h=>h) _ _ _ h;simp only[de,a]at J;simp only[aV]at J⊢;refine⟨J.1,fun e=>(by cases e),fun _ e=>(by cases e),fun c b e=>?_,fun _ e=>(by cases e)⟩;cases e;simp only[ej]at h⊢;exact h
section
variable {pr:Nat->Prop} {w:World} {Z μ:a8} {B:List (aB×List ah)} {e:List (aB×er)} {R:Nat->Prop} {rw:List aB} {κ:Nat}
 (a1:Good pr w Z B e) (he:C4 Z R rw) (bg:∀b,R b->∀k j,¬Z.tr k j b) (DX:∀b o,Z.A b o->μ.A b o) (zb:∀k∈rw,∀own,look k e=some own->∀b,nV Z k b->∀o,o<own.n*own.sz->μ.A b o)
include a1 he bg DX zb
mutual
theorem L1:∀(p:ah) (v:Value) (j:Nat),aV w Z p v->jw e p->(hj e p).Nodup->(∀k∈fZ p,k∈rw)->(∀i S,(fw Z R e p)[i]? =some S->∀b,S b->μ.tr (.loc κ) (j+i) b)->aV w μ (fold κ e j p) v
 | .int k n,v,_,h,_,_,_,_=>by simpa only[aV,fold]using h
 | .bool b,v,_,h,_,_,_,_=>by simpa only[aV,fold]using h
 | .str s,v,_,h,_,_,_,_=>by simpa only[aV,fold]using h
 | .slice sz tag xs,v,j,h,al,l,q,d=>by
  simp only[aV]at h;obtain⟨⟨a,cap,J,U,W,a6⟩,_,eh,mD,_⟩:=h;simp only[fold];refine Qn (tag:= .no) ?_ (yq xs);by_cases aM:∃k i,tag= .tr k i
  ·obtain⟨k,i,rfl⟩:=aM;have aH:=L3 .no v (mD k i rfl);refine y6 (fun b o h=>⟨DX b o h,rfl⟩) (fun _ _ _=>rfl) _ _ _ v (fun b ae=>?_) aH;simpa using d 0 (fun b=>Z.tr k i b/\¬R b) (by simp[fw]) b ⟨ae,fun B=>bg b B _ _ ae⟩
  by_cases P:∃k,tag= .own k
  ·obtain⟨k,rfl⟩:=P;simp only[jw]at al;obtain⟨_,⟨el,z⟩,G,L⟩:=al;obtain⟨n',u,g1,g2,g3⟩:=eh k rfl;obtain⟨v0,fm,f,r,M,V⟩:=a1.own k _ z;simp only at f r M;rw[g1]at f;simp only[dz,hW]at f;obtain⟨rfl,rfl⟩:=f;have N:=g3 rfl;subst N;have F:k∈rw:=q k (by simp[fZ]);simp only[ej];refine⟨a,cap,by rw[nX];exact J,by rw[nX];exact U,by rw[nX];exact W,?_⟩;rcases a6 with rfl|⟨b,off,us,A,cY,Q⟩
   ·exact .inl rfl
   by_cases y:xs=[]
   ·left;rw[y];rfl
   right;subst A;rcases r.2 with⟨A,_⟩|⟨g,yU,cur,f1,f2,f3,f4,f5,f6,f7⟩
   ·rw[A]at J;cases J
   have D:v.ownBlock=some g:=by rw[f1];rfl
   have x:nV Z k g:=⟨_,_,g1,D⟩;have t:∀b,(nV Z k b\/(mL Z (lF xs) b/\¬R b))->μ.tr (.loc κ) j b:=fun b ae=>by simpa using d 0 (fun b=>nV Z k b\/(mL Z (lF xs) b/\¬R b)) (by simp[fw]) b ae
   rw[f1]at J;simp only[ayn,dz,Addr.mk.injEq]at J;obtain⟨⟨rfl,rfl,_⟩,_,rfl⟩:=J;have hlen:=sx Q;refine⟨g,0,us,fun c=>mL Z (lF xs) c/\¬R c,rfl,t g (.inl x),fun c aA=>⟨t c (.inr aA),fun _ O=>aA.2 (by rw[O];exact he.R k g F x)⟩,x5 (fun b o h=>⟨DX b o h,rfl⟩) _ _ cY,fun _=>⟨rfl,?_,el,?_⟩,?_⟩
   ·rw[hlen];exact Nat.mul_pos (List.length_pos_iff.2 y) L
   ·simp only[shape,f3,f6]
   ·have J:=Ot he.trd xs us Q G (by simpa only[hj]using l);exact Hs (fun b o h=>⟨DX b o h,rfl⟩) (fun _ _ _=>rfl) _ _ _ us (fun b ae=>⟨ae,fun B=>by obtain⟨bt,jJ,_,aM⟩:=ae;exact bg b B _ _ aM⟩) J
  ·have ab:xs=[]:=by
    simp only[jw]at al;split at al
    ·exact absurd ⟨_,_,rfl⟩ aM
    ·exact absurd ⟨_,rfl⟩ P
    ·exact al
   subst ab;simp only[cR,ej];exact⟨a,cap,J,U,W,.inl trivial⟩
 | .row sz k n,v,j,h,al,l,q,d=>by
  simp only[jw]at al;obtain⟨⟨m,hm⟩,⟨xs,el,z,G⟩,L⟩:=al;have K:wU e k=xs:=by simp[wU,z]
  simp only[aV]at h;obtain⟨⟨adk,c0,X⟩,eK,n',u,g1,g2,g3⟩:=h;obtain⟨v0,us,f,r,M,V⟩:=a1.own k _ z;simp only at f r M;rw[g1]at f;simp only[dz,hW]at f;obtain⟨rfl,rfl⟩:=f;have N:=g3 rfl;subst N;obtain⟨E,H,sw⟩:=V xs rfl;simp only at E H;have F:k∈rw:=q k (by simp[fZ]);rcases r.2 with⟨A,_⟩|⟨g,cap,cur,f1,f2,f3,f4,f5,f6,f7⟩
  ·rw[A]at X;cases X
  have D:v.ownBlock=some g:=by rw[f1];rfl
  have x:nV Z k g:=⟨_,_,g1,D⟩;have t:∀b,(nV Z k b\/(mL Z (lF (wU e k)) b/\¬R b))->μ.tr (.loc κ) j b:=fun b ae=>by simpa using d 0 (fun b=>nV Z k b\/(mL Z (lF (wU e k)) b/\¬R b)) (by simp[fw]) b ae
  rw[K]at t;simp only[fold,K];refine Qn (tag:= .no) ?_ (yq xs);simp only[ej];refine⟨some ⟨g,0,none⟩,cap,by rw[nX,E];exact f1,by rw[nX,E];exact f4,⟨f5,by rw[nX,E];exact eK⟩,?_⟩;by_cases y:xs=[]
  ·left;rw[y];rfl
  ·right;have hlen:=sx H;refine⟨g,0,us,fun c=>mL Z (lF xs) c/\¬R c,rfl,t g (.inl x),fun c aA=>⟨t c (.inr aA),fun _ O=>aA.2 (by rw[O];exact he.R k g F x)⟩,Iw us 0 fun i u hi=>?_,fun _=>⟨rfl,?_,el,?_⟩,?_⟩
   ·have Y:i<us.length:=(fp.1 hi).1;refine⟨zb k F _ z g x _ (by simp only;rw[r.1]at Y;omega),?_⟩;have:=r.cells D i u hi;rwa[pK]at this
   ·rw[hlen];exact Nat.mul_pos (List.length_pos_iff.2 y) L
   ·simp only[shape,f3,f6]
   ·have J:=Ot he.trd xs us H G (by simpa only[hj,K]using l);exact Hs (fun b o h=>⟨DX b o h,rfl⟩) (fun _ _ _=>rfl) _ _ _ us (fun b ae=>⟨ae,fun B=>by obtain⟨bt,jJ,_,aM⟩:=ae;exact bg b B _ _ aM⟩) J
 | .agg cs,v,j,h,al,l,q,d=>by simp only[aV,jw,hj,fZ,fw,fold]at h al l q d⊢;obtain⟨us,J,U⟩:=h;exact⟨us,J,Vc cs _ j U al l q d⟩
 | .tuple cs,v,j,h,al,l,q,d=>by simp only[aV,jw,hj,fZ,fw,fold]at h al l q d⊢;obtain⟨us,J,U⟩:=h;exact⟨us,J,Vd cs _ j U al l q d⟩
 | .junk,_,_,_,al,_,_,_=>by simp[jw]at al
 | .ptr _ _,_,_,_,al,_,_,_=>by simp[jw]at al
 | .eptr _,_,_,_,al,_,_,_=>by simp[jw]at al
 | .iface _ _,_,_,_,al,_,_,_=>by simp[jw]at al
 | .nilp,_,_,_,al,_,_,_=>by simp[jw]at al
 | .func _ _,_,_,_,al,_,_,_=>by simp[jw]at al
 | .gmap _,_,_,_,al,_,_,_=>by simp[jw]at al
 | .rptr _ _ _ _ _,_,_,_,al,_,_,_=>by simp[jw]at al
 | .hdm _ _,_,_,_,al,_,_,_=>by simp[jw]at al
 | .hdi _ _ _,_,_,_,al,_,_,_=>by simp[jw]at al
 | .cst _,_,_,_,al,_,_,_=>by simp[jw]at al
theorem Vc:∀(cs:List ah) (us:List Value) (j:Nat),c1 w Z cs us->tN e cs->(qQ e cs).Nodup->(∀k∈pn cs,k∈rw)->(∀i S,(pq Z R e cs)[i]? =some S->∀b,S b->μ.tr (.loc κ) (j+i) b)->c1 w μ (vO κ e j cs) us
 |[],us,j,h,_,_,_,_=>by simpa only[c1,vO]using h
 |c::cs,us,j,h,al,m,f,d=>by
  simp only[c1,tN,qQ,pn,pq,vO]at h al m f d⊢;obtain⟨u,l,J,⟨U,n⟩,o⟩:=h;have g:=rS.1 m;refine⟨u,l,J,⟨L1 c u j U al.1 g.1 (fun k a=>f k (sQ _ a)) (fun i S hi b ae=>d i S (by rw[rQ (fp.1 hi).1];exact hi) b ae),n⟩,
   Vc cs l _ o al.2 g.2.1 (fun k a=>f k (List.mem_append_right _ a)) (fun i S hi b ae=>?_)⟩
  have:=d (vF c+i) S (by rw[List.getElem?_append_right (by rw[AA];omega),AA];simpa using hi) b ae;rwa[<-Nat.add_assoc]at this
theorem Vd:∀(cs:List ah) (us:List Value) (j:Nat),cN w Z cs us->tN e cs->(qQ e cs).Nodup->(∀k∈pn cs,k∈rw)->(∀i S,(pq Z R e cs)[i]? =some S->∀b,S b->μ.tr (.loc κ) (j+i) b)->cN w μ (vO κ e j cs) us
 |[],us,j,h,_,_,_,_=>by simpa only[cN,vO]using h
 |c::cs,us,j,h,al,m,f,d=>by
  simp only[cN,tN,qQ,pn,pq,vO]at h al m f d⊢;obtain⟨u,l,J,U,n⟩:=h;have g:=rS.1 m;refine⟨u,l,J,L1 c u j U al.1 g.1 (fun k a=>f k (sQ _ a)) (fun i S hi b ae=>d i S (by rw[rQ (fp.1 hi).1];exact hi) b ae),
   Vd cs l _ n al.2 g.2.1 (fun k a=>f k (List.mem_append_right _ a)) (fun i S hi b ae=>?_)⟩
  have:=d (vF c+i) S (by rw[List.getElem?_append_right (by rw[AA];omega),AA];simpa using hi) b ae;rwa[<-Nat.add_assoc]at this
end
end
end
section
open Go Go.RowKit
mutual
def amL:∀p:ah,mn p->∀x∈hD p,x.1≠vg
 | .slice _ tag xs,al,x,a=>by cases tag<;>simp only[hD,mn]at al a<;>simp at a;subst a;exact al
 | .agg cs,al,x,a=>by simp only[hD,mn]at al a;exact IZ cs al x a
 | .int _ _,_,_,a=>by simp[hD]at a
 | .bool _,_,_,a=>by simp[hD]at a
 | .str _,_,_,a=>by simp[hD]at a
 | .junk,_,_,a=>by simp[hD]at a
 | .ptr _ _,_,_,a=>by simp[hD]at a
 | .eptr _,_,_,a=>by simp[hD]at a
 | .iface _ _,_,_,a=>by simp[hD]at a
 | .nilp,_,_,a=>by simp[hD]at a
 | .tuple _,_,_,a=>by simp[hD]at a
 | .func _ _,_,_,a=>by simp[hD]at a
 | .gmap _,_,_,a=>by simp[hD]at a
 | .row _ _ _,_,_,a=>by simp[hD]at a
 | .rptr _ _ _ _ _,_,_,a=>by simp[hD]at a
 | .hdm _ _,_,_,a=>by simp[hD]at a
 | .hdi _ _ _,_,_,a=>by simp[hD]at a
 | .cst _,_,_,a=>by simp[hD]at a
def IZ:∀p:List ah,u9 p->∀x∈lF p,x.1≠vg
 |[],_,x,a=>by simp[lF]at a
 |c::cs,al,x,a=>by
  simp only[lF,u9,j0]at al a;rcases a with a|a
  ·exact amL c al.1 x a
  ·exact IZ cs al.2 x a
end
mutual
def YQ{e:List (aB×er)}:∀p:ah,jw e p->∀x∈hj e p,x.1≠vg
 | .slice _ tag xs,al,x,a=>by
  cases tag with
  |own k=>simp only[hj,jw]at al a;exact IZ xs al.2.2.1 x a
  |tr k i=>simp only[hj,jw]at al a;simp at a;subst a;exact al
  |no=>simp[hj]at a
  |nil=>simp[hj]at a
  |lo k=>simp[hj]at a
 | .row _ k _,al,x,a=>by simp only[hj,jw]at al a;obtain⟨_,⟨xs,el,c,b⟩,_⟩:=al;rw[show wU e k=xs from by simp[wU,c]]at a;exact IZ xs b x a
 | .agg cs,al,x,a=>by simp only[hj,jw]at al a;exact On cs al x a
 | .tuple cs,al,x,a=>by simp only[hj,jw]at al a;exact On cs al x a
 | .int _ _,_,_,a=>by simp[hj]at a
 | .bool _,_,_,a=>by simp[hj]at a
 | .str _,_,_,a=>by simp[hj]at a
 | .junk,_,_,a=>by simp[hj]at a
 | .ptr _ _,_,_,a=>by simp[hj]at a
 | .eptr _,_,_,a=>by simp[hj]at a
 | .iface _ _,_,_,a=>by simp[hj]at a
 | .nilp,_,_,a=>by simp[hj]at a
 | .func _ _,_,_,a=>by simp[hj]at a
 | .gmap _,_,_,a=>by simp[hj]at a
 | .rptr _ _ _ _ _,_,_,a=>by simp[hj]at a
 | .hdm _ _,_,_,a=>by simp[hj]at a
 | .hdi _ _ _,_,_,a=>by simp[hj]at a
 | .cst _,_,_,a=>by simp[hj]at a
def On{e:List (aB×er)}:∀p:List ah,tN e p->∀x∈qQ e p,x.1≠vg
 |[],_,x,a=>by simp[qQ]at a
 |c::cs,al,x,a=>by
  simp only[qQ,tN,j0]at al a;rcases a with a|a
  ·exact YQ c al.1 x a
  ·exact On cs al.2 x a
end
mutual
def YR{e:List (aB×er)}:∀p:ah,jw e p->∀k∈fZ p,∃own,look k e=some own
 | .row sz k n,al,d,b=>by simp only[fZ,jw]at al b;obtain⟨_,⟨xs,el,c,f⟩,_⟩:=al;simp at b;subst b;exact⟨_,c⟩
 | .agg cs,al,x,a=>by simp only[fZ,jw]at al a;exact Oo cs al x a
 | .tuple cs,al,x,a=>by simp only[fZ,jw]at al a;exact Oo cs al x a
 | .slice sz tag xs,al,d,b=>by
  cases tag with
  |own k=>simp only[fZ,jw]at al b;obtain⟨_,⟨el,c⟩,_⟩:=al;simp at b;subst b;exact⟨_,c⟩
  |tr k i=>simp[fZ]at b
  |no=>simp[fZ]at b
  |nil=>simp[fZ]at b
  |lo k=>simp[fZ]at b
 | .int _ _,_,_,a=>by simp[fZ]at a
 | .bool _,_,_,a=>by simp[fZ]at a
 | .str _,_,_,a=>by simp[fZ]at a
 | .junk,_,_,a=>by simp[fZ]at a
 | .ptr _ _,_,_,a=>by simp[fZ]at a
 | .eptr _,_,_,a=>by simp[fZ]at a
 | .iface _ _,_,_,a=>by simp[fZ]at a
 | .nilp,_,_,a=>by simp[fZ]at a
 | .func _ _,_,_,a=>by simp[fZ]at a
 | .gmap _,_,_,a=>by simp[fZ]at a
 | .rptr _ _ _ _ _,_,_,a=>by simp[fZ]at a
 | .hdm _ _,_,_,a=>by simp[fZ]at a
 | .hdi _ _ _,_,_,a=>by simp[fZ]at a
 | .cst _,_,_,a=>by simp[fZ]at a
def Oo{e:List (aB×er)}:∀p:List ah,tN e p->∀k∈pn p,∃own,look k e=some own
 |[],_,x,a=>by simp[pn]at a
 |c::cs,al,x,a=>by
  simp only[pn,tN,j0]at al a;rcases a with a|a
  ·exact YR c al.1 x a
  ·exact Oo cs al.2 x a
end
end
section
open Go Go.RowKit
mutual
def hX(N:List aB):ah->ah
 | .slice sz (.tr k j) xs=>if k∈N\/k=vg then .slice sz .no (h8 N xs)else .slice sz (.tr k j) (cR xs)
 | .slice sz (.own k) xs=>.slice sz (.own k) (h8 N xs)
 | .slice sz .nil xs=>.slice sz .nil (h8 N xs)
 | .slice sz .no xs=>.slice sz .no (h8 N xs)
 | .slice sz (.lo _) xs=>.slice sz .no (h8 N xs)
 | .agg cs=>.agg (h8 N cs)
 | .eptr x=>.eptr (hX N x)
 | .iface t x=>.iface t (hX N x)
 | .tuple bf=>.tuple (h8 N bf)
 | .func f cW=>.func f (h8 N cW)
 |p=>p
def h8(N:List aB):List ah->List ah
 |[]=>[]
 |x::xs=>hX N x::h8 N xs
end
def yV(N:List aB):∀xs,(h8 N xs).length=xs.length
 |[]=>rfl
 |x::xs=>by simp[h8,yV N xs]
section
variable {w:World} {Z μ:a8} {N:List aB} (bj:∀b o,Z.A b o->μ.A b o) (ae:μ.bx=Z.bx) (al:μ.ow=Z.ow) (aM:∀k,k∉N->∀j b,Z.tr k j b->μ.tr k j b)
 (gX:∀k j bt dj b,Z.tr k j b->Z.tr bt dj b->k=bt/\j=dj)
include bj ae al aM gX
mutual
theorem CM:∀(p:ah) (v:Value),aV w Z p v->aV w μ (hX N p) v
 | .junk,_,_=>by simp[hX,aV]
 | .int _ _,_,h=>by simpa only[hX,aV]using h
 | .bool _,_,h=>by simpa only[hX,aV]using h
 | .str _,_,h=>by simpa only[hX,aV]using h
 | .slice sz tag xs,v,h=>by
  have hw:=h;simp only[aV]at h;obtain⟨J,U,d,r,K⟩:=h;obtain⟨a0,G,z,B,A,s⟩:=J;have c:∃a cap,v= .slice a (h8 N xs).length cap/\(h8 N xs).length<=cap/\(cap<=maxLen/\(h8 N xs).length<=lim)/\(h8 N xs=[]\/ ∃b off us,a=some ⟨b,off,none⟩/\lB w μ.A b off us/\dk w μ sz (h8 N xs) us):=by
   refine⟨a0,G,by rw[yV];exact z,by rw[yV];exact B,by rw[yV];exact A,?_⟩;rcases s with r|⟨b,off,us,D,F,y⟩
   ·exact .inl (by rw[r];rfl)
   ·exact .inr ⟨b,off,us,D,x5 (fun b o h=>⟨bj b o h,rfl⟩) _ _ F,Pt sz xs us y⟩
  cases tag with
  |no=>simp only[hX,aV];exact⟨c,fun e=>(by cases e),fun _ e=>(by cases e),fun _ _ e=>(by cases e),fun _ e=>(by cases e)⟩
  |lo k=>simp only[hX,aV];exact⟨c,fun e=>(by cases e),fun _ e=>(by cases e),fun _ _ e=>(by cases e),fun _ e=>(by cases e)⟩
  |nil=>simp only[hX,aV];exact⟨c,fun _=>U rfl,fun _ e=>(by cases e),fun _ _ e=>(by cases e),fun _ e=>(by cases e)⟩
  |own k=>simp only[hX,aV];refine⟨c,fun e=>(by cases e),fun g e=>?_,fun _ _ e=>(by cases e),fun _ e=>(by cases e)⟩;rw[al,yV];exact d g e
  |tr k j=>
   simp only[hX];by_cases l:k∈N\/k=vg
   ·rw[if_pos l];simp only[aV];exact⟨c,fun e=>(by cases e),fun _ e=>(by cases e),fun _ _ e=>(by cases e),fun _ e=>(by cases e)⟩
   ·rw[if_neg l];have q:=not_or.1 l;have E:=Oq gX _ v hw (by simp only[mn];exact q.2) (by simp[hD]);have m:=y6 (A':=μ.A) (fun b o h=>⟨bj b o h,rfl⟩) (fun _ _ _=>rfl) _ _ (μ.tr k j) _ (fun b ae=>by obtain⟨H,i,hm,ae⟩:=ae;simp only[hD,List.mem_singleton,hW]at hm;obtain⟨rfl,rfl⟩:=hm;exact aM _ q.1 _ _ ae) E
    simp only[de]at m;exact Qn m (yq xs)
 | .agg cs,v,h=>by simp only[aV,hX]at h⊢;obtain⟨us,J,U⟩:=h;exact⟨us,J,Pw cs _ U⟩
 | .ptr key off,v,h=>by simp only[aV,hX]at h⊢;rw[ae];exact h
 | .eptr x,v,h=>by simp only[aV,hX]at h⊢;obtain⟨b,off,u,J,U,d⟩:=h;exact⟨b,off,u,J,CM x u U,x5 (fun b o h=>⟨bj b o h,rfl⟩) _ _ d⟩
 | .iface t x,v,h=>by simp only[aV,hX]at h⊢;obtain⟨u,J,U⟩:=h;exact⟨u,J,CM x u U⟩
 | .nilp,_,h=>by simpa only[hX,aV]using h
 | .tuple bf,v,h=>by simp only[aV,hX]at h⊢;obtain⟨us,J,U⟩:=h;exact⟨us,J,FN bf _ U⟩
 | .func f cW,v,h=>by simp only[aV,hX]at h⊢;obtain⟨us,J,U⟩:=h;exact⟨us,J,FN cW _ U⟩
 | .gmap key,v,h=>by simp only[aV,hX]at h⊢;rw[ae];exact h
 | .row sz k n,v,h=>by simp only[aV,hX]at h⊢;rw[al];exact h
 | .rptr sz k n i f,v,h=>by simp only[aV,hX]at h⊢;rw[al];exact h
 | .hdm _ _,_,h=>by simp only[aV]at h
 | .hdi _ _ _,_,h=>by simp only[aV]at h
 | .cst _,_,h=>by simpa only[hX,aV]using h
theorem Pw:∀(cs:List ah) (us:List Value),c1 w Z cs us->c1 w μ (h8 N cs) us
 |[],_,h=>by simpa only[h8,c1]using h
 |c::cs,us,h=>by simp only[c1,h8]at h⊢;obtain⟨u,a,J,U,b⟩:=h;exact⟨u,a,J,⟨CM c u U.1,U.2⟩,Pw cs a b⟩
theorem FN:∀(cs:List ah) (us:List Value),cN w Z cs us->cN w μ (h8 N cs) us
 |[],_,h=>by simpa only[h8,cN]using h
 |c::cs,us,h=>by simp only[cN,h8]at h⊢;obtain⟨u,a,J,U,b⟩:=h;exact⟨u,a,J,CM c u U,FN cs a b⟩
theorem Pt(sz:Nat):∀(cs:List ah) (us:List Value),dk w Z sz cs us->dk w μ sz (h8 N cs) us
 |[],_,h=>by simpa only[h8,dk]using h
 |c::cs,us,h=>by simp only[dk,h8]at h⊢;obtain⟨u,a,J,⟨U,b⟩,d⟩:=h;exact⟨u,a,J,⟨CM c u U,b⟩,Pt sz cs a d⟩
end
def aqn{cs:List ah}{us:List Value}(h:iI w Z cs us):iI w μ (h8 N cs) us:=by
 have i:∀c:ah,(∀a b,c≠ .hdm a b)->(∀a b d,c≠ .hdi a b d)->(∀a b,hX N c≠ .hdm a b)/\(∀a b d,hX N c≠ .hdi a b d):=by
  intro c J U;cases c with
  |slice sz tag xs=>cases tag<;>simp only[hX]<;>first|(split<;>simp)|simp
  |hdm a b=>exact absurd rfl (J a b)
  |hdi a b d=>exact absurd rfl (U a b d)
  |_=>simp[hX]
 unfold iI at h;split at h
 ·simp only[h8,hX,iI];exact⟨FN bj ae al aM gX _ _ h.1,⟨by rw[yV];exact h.2.len,h.2.inc,h.2.lt⟩⟩
 ·simp only[h8,hX,iI];exact FN bj ae al aM gX _ _ h
 ·rename_i f g;have e:=Pw bj ae al aM gX _ _ h;rw[qR]
  ·exact e
  ·exact Ak e
end
def aer(N:List aB)(cs:List ah)(us:Array Value)(el:fF):jN (h8 N cs) us el=jN cs us el:=by
 cases cs with
 |nil=>rfl
 |cons c r=>
  cases c with
  |slice sz tag xs=>
   cases tag with
   |tr k j=>by_cases a:k∈N\/k=vg<;>simp[h8,hX,jN,a]
   |_=>rfl
  |_=>rfl
def Dx(N:List aB)(l:List (Nat×ah)):List (Nat×ah):=l.map fun x=>(x.1,hX N x.2)
def Dw(N:List aB)(l:List (aB×List ah)):List (aB×List ah):=l.map fun x=>(x.1,h8 N x.2)
def G5(N:List aB)(o:er):er:=⟨o.n,o.el,o.sz,o.xs.map (h8 N)⟩
def A7(N:List aB)(rw:List aB)(l:List (aB×er)):List (aB×er):=(l.filter fun x=>decide (x.1∉rw)).map fun x=>(x.1,G5 N x.2)
def VB(N:List aB)(i:Nat):∀l,get i (Dx N l)=hX N (get i l)
 |[]=>by simp[Dx,get,hX]
 |(j,p)::r=>by
  have a:=VB N i r;simp only[Dx,fG,get]at a⊢;split
  ·rfl
  ·exact a
def NO(N:List aB)(k:aB):∀l,look k (Dw N l)=(look k l).map (h8 N)
 |[]=>rfl
 |(j,p)::r=>by
  have a:=NO N k r;simp only[Dw,fG,look]at a⊢;split
  ·rfl
  ·exact a
def NP(N rw:List aB)(k:aB):∀l,look k (A7 N rw l)=if k∈rw then none else(look k l).map (G5 N)
 |[]=>by simp[A7,look]
 |(j,p)::r=>by
  have b:=NP N rw k r;simp only[A7]at b⊢;by_cases a:j∈rw
  ·rw[List.filter_cons_of_neg (by simpa using a),b];simp only[look];by_cases c:k∈rw
   ·simp[c]
   ·have:j≠k:=fun e=>c (e▸a);simp[c,this]
  ·rw[List.filter_cons_of_pos (by simpa using a)];simp only[fG,look];by_cases e:j=k
   ·subst e;simp[a]
   ·rw[if_neg e,b,if_neg e]
def Bj(st:bn)(p:ah):List aB:=(hj st.e p).map (·.1)
def Bk(st:bn)(s:Nat):bn:=⟨put s (fold st.n st.e 0 (get s st.t)) (Dx (Bj st (get s st.t)) st.t),Dw (Bj st (get s st.t)) st.b,A7 (Bj st (get s st.t)) (fZ (get s st.t)) st.e,st.n+1,st.o⟩
def DP(ob:List aB)(st:bn)(s:Nat):Prop:=jw st.e (get s st.t)/\(hj st.e (get s st.t)).Nodup/\(fZ (get s st.t)).Nodup/\ .loc st.n∉st.o/\(∀k∈Bj st (get s st.t),k∉ob)/\∀k∈fZ (get s st.t),∃j,k= .loc j
def a8.fd(Z:a8)(R:Nat->Prop)(rw:List aB)(e:List (aB×er))(T:List (Nat->Prop))(N:List aB)(n:Nat):a8:=
 {A:=fun b o=>Z.A b o\/ ∃k,k∈rw/\∃own,look k e=some own/\nV Z k b/\o<own.n*own.sz,
  bx:=Z.bx,ow:=Z.ow,
  tr:=fun k j b=>(k∉N/\Z.tr k j b)\/(k= .loc n/\∃S,T[j]? =some S/\S b)}
def ahU{C:fb}{st:bn}{a:Act}{w:World}{Z:a8}(h:cZ C st a w Z){s:Nat}(aA:DP C.ob st s):∃Z',cZ C (Bk st s) a w Z':=by
 obtain⟨ok,nd,FK,vY,Wz,Wp⟩:=aA;unfold Bk;generalize bM:get s st.t=p at ok nd FK Wz Wp⊢;have nh:aV w Z p (a.tmps.getD s undef):=by rw[<-bM];exact h.slot s
 let R:Nat->Prop:=fun b=> ∃k,k∈fZ p/\nV Z k b
 have H9:=h.new (.loc st.n) ⟨e2 _,vY⟩;have A:∀k b,k∈fZ p->nV Z k b->∃own,look k st.e=some own/\C.w0.heap.size<=b/\b<w.heap.size/\(∀k j,¬Z.tr k j b)/\(∀f,(look f st.b).isSome->Z.bx f≠some b)/\∀g n v,(look g st.e).isSome->Z.ow g=some (n,v)->v.ownBlock=some b->g=k:=by rintro k b d ⟨n,v,J,U⟩;obtain⟨own,K⟩:=YR _ ok k d;obtain⟨j,rfl⟩:=Wp k d;exact⟨own,K,h.fr.nrow j n v b J U,h.good.ownLt K J U,h.good.otr b (.inr ⟨_,_,_,by simp[K],J,U⟩),fun f t lR=>h.good.obx _ f _ _ b (by simp[K]) t J U lR,fun g n' v' a1 z D=>h.good.oinj g _ n' n v' v b a1 (by simp[K]) z J D U⟩
 have HJ:C4 Z R (fZ p):=by refine⟨h.fr.trd,fun k f b d t J U=>?_,fun k b d h=>⟨k,d,h⟩⟩;obtain⟨n,v,y,a2⟩:=J;obtain⟨_,bP,_⟩:=A k b d ⟨n,v,y,a2⟩;obtain⟨_,_,_,_,_,_,c2⟩:=A f b t U;exact c2 k n v (by simp[bP]) y a2
 let N:=Bj st p
 let μ:a8:=Z.fd R (fZ p) st.e (fw Z R st.e p) N st.n
 have bj:∀b o,Z.A b o->μ.A b o:=fun b o h=>.inl h;have gX:∀k,k∉N->∀j b,Z.tr k j b->μ.tr k j b:=fun k d j b ae=>.inl ⟨d,ae⟩;have ajy:∀q v,aV w Z q v->aV w μ (hX N q) v:=CM bj rfl rfl gX h.fr.trd;have ajz:∀sz q v,dk w Z sz q v->dk w μ sz (h8 N q) v:=fun sz=>Pt bj rfl rfl gX h.fr.trd sz;have MZ:∀(j:Nat) (S:Nat->Prop) (b:Nat),(fw Z R st.e p)[j]? =some S->S b->(∃k∈fZ p,nV Z k b)\/ ∃k i,(k,i)∈hj st.e p/\Z.tr k i b:=by
  intro j S b af du;rcases JW _ j S af b du with⟨k,d,J⟩|⟨⟨k,i,J,U⟩,_⟩
  ·exact .inl ⟨k,d,J⟩
  ·exact .inr ⟨k,i,J,U⟩
 have L:∀k,(look k (Dw N st.b)).isSome->(look k st.b).isSome:=fun k d=>by rw[NO]at d;simpa using d
 have H:∀k,(look k (A7 N (fZ p) st.e)).isSome->k∉fZ p/\(look k st.e).isSome:=fun k d=>by
  rw[NP]at d;split at d
  ·cases d
  ·rename_i e;exact⟨e,by simpa using d⟩
 have WA:∀g n v b,g∉fZ p->(look g st.e).isSome->Z.ow g=some (n,v)->v.ownBlock=some b->∀k∈fZ p,¬nV Z k b:=by intro g n v b a1 B z D k d G;obtain⟨_,_,_,_,_,_,c⟩:=A k b d G;exact a1 (c g n v B z D▸d)
 have MD:aV w μ (fold st.n st.e 0 p) (a.tmps.getD s undef):=by refine L1 (μ:=μ) h.good HJ (fun b bg=>?_) bj (fun k d own K b r o al=>.inr ⟨k,d,own,K,r,al⟩) p _ 0 nh ok nd (fun k d=>d) (fun i S hi b du=>.inr ⟨rfl,S,by simpa using hi,du⟩);obtain⟨k,d,r⟩:=bg;obtain⟨_,_,_,_,a6,_⟩:=A k b d r;exact a6
 refine⟨μ,⟨fun bl o bj=>?_,fun k cs d=>?_,fun k f bl J U=>h.good.inj k f bl (L k J) (L f U),fun g o a1=>?_,fun g fy n n' v v' bl J U=>h.good.oinj g fy n n' v v' bl (H g J).2 (H fy U).2,fun g k n v bl J U=>h.good.obx g k n v bl (H g J).2 (L k U),h.good.one,fun bl aM k j akI=>?_⟩,
  ⟨h.fr.os,h.fr.tape,h.fr.output,h.fr.size,h.fr.block,fun b o l=>⟨.inl (h.fr.keep b o l).1,(h.fr.keep b o l).2⟩,fun b o l=>?_,h.fr.obj,h.fr.obn,h.fr.row,h.fr.obr,fun k j f E b J U=>?_,fun k j b ae=>?_,fun k j b ae=>?_,h.fr.sh,h.fr.nrow⟩,
  h.defers,h.size,fun i=>?_,fun k d=>?_,fun x F=>?_,fun m hm aH=>h.obk m hm (y5 (Nat.le_succ _) (fun _ h=>h) aH)⟩
 ·rcases bj with bj|⟨k,d,own,_,r,_⟩
  ·exact h.good.alt bl o bj
  ·obtain⟨_,_,_,aq,_⟩:=A k bl d r;exact aq
 ·simp only at d;rw[NO]at d;cases B:look k st.b with
  |none=>rw[B]at d;cases d
  |some eA=>
   rw[B]at d;simp only[nz,dz]at d;subst d;obtain⟨bl,us,el,z,D,P,cY,fQ⟩:=h.good.box k eA B;refine⟨bl,us,el,z,D,fun o l=>?_,by rw[aer];exact cY,aqn bj rfl rfl gX h.fr.trd fQ⟩;rcases l with l|⟨f,t,own,_,r,_⟩
   ·exact P o l
   ·obtain⟨_,_,_,_,_,b2,_⟩:=A f bl t r;exact b2 k (by simp[B]) z
 ·simp only at a1;have W:=H g (by rw[a1];rfl);rw[NP,if_neg W.1]at a1;cases B:look g st.e with
  |none=>rw[B]at a1;cases a1
  |some oH=>
   rw[B]at a1;simp only[nz,dz]at a1;subst a1;obtain⟨v,us,z,D,P,cY⟩:=h.good.own g oH B;have dt:∀bl,v.ownBlock=some bl->∀j,μ.A bl j->Z.A bl j:=by
    intro bl ae j l;rcases l with l|⟨f,t,own,_,r,_⟩
    ·exact l
    ·exact absurd r (WA g _ v bl W.1 W.2 z ae f t)
   refine⟨v,us,z,D,fun bl ae=>⟨(P bl ae).1,fun j l=>(P bl ae).2 j (dt bl ae j l)⟩,fun xs F=>?_⟩;simp only[G5]at F;cases Q:oH.xs with
   |none=>rw[Q]at F;cases F
   |some ys=>rw[Q]at F;simp only[nz,dz]at F;subst F;obtain⟨f1,f2,f3⟩:=cY ys Q;exact⟨by rw[yV];exact f1,ajz _ _ _ f2,fun bl ae j l=>f3 bl ae j (dt bl ae j l)⟩
 ·have hold:∀k j,¬Z.tr k j bl:=by refine h.good.otr bl (aM.imp (fun⟨k,y,a2⟩=>⟨k,L k y,a2⟩) fun⟨g,n,v,y,a2,a3⟩=>⟨g,n,v,(H g y).2,a2,a3⟩)
  rcases akI with⟨_,ae⟩|⟨_,S,du,ae⟩
  ·exact hold k j ae
  ·rcases MZ j S bl du ae with⟨f,t,G⟩|⟨f,i,_,r⟩
   ·rcases aM with⟨bJ,y,a2⟩|⟨g,n,v,y,a2,a3⟩
    ·obtain⟨_,_,_,_,_,b2,_⟩:=A f bl t G;exact b2 bJ (L bJ y) a2
    ·exact WA g n v bl (H g y).1 (H g y).2 a2 a3 f t G
   ·exact hold f i r
 ·rcases l with l|⟨k,d,own,_,r,_⟩
  ·exact h.fr.fresh b o l
  ·obtain⟨_,_,U,_⟩:=A k b d r;exact .inr (.inr U)
 ·have mixed:∀(k:aB) (j E:Nat) (S:Nat->Prop),k∉N->Z.tr k j b->(fw Z R st.e p)[E]? =some S->S b->eF:=by
   intro k j E S d ae du r;rcases MZ E S b du r with⟨f,t,G⟩|⟨f,i,hm,V⟩
   ·obtain⟨_,_,_,_,a6,_⟩:=A f b t G;exact a6 k j ae
   ·obtain⟨rfl,_⟩:=h.fr.trd k j f i b ae V;exact d (iA.2 ⟨_,hm,rfl⟩)
  rcases J with⟨X,M⟩|⟨rfl,S,s1,M⟩<;>rcases U with⟨Y,O⟩|⟨rfl,mx,s2,O⟩
  ·exact h.fr.trd k j f E b M O
  ·exact(mixed k j E mx X M s2 O).elim
  ·exact(mixed f E j S Y O s1 M).elim
  ·exact⟨rfl,aaW HJ p nd FK (fun k d=>d) j E S mx s1 s2 b M O⟩
 ·rcases ae with⟨_,ae⟩|⟨_,S,du,ae⟩
  ·exact h.fr.trb k j b ae
  ·rcases MZ j S b du ae with⟨f,t,G⟩|⟨f,i,hm,V⟩
   ·obtain⟨_,_,U,aq,_⟩:=A f b t G;exact⟨.inr U,aq⟩
   ·have:=h.fr.trb f i b V;exact⟨.inr (this.1.resolve_left (YQ _ ok _ hm)),this.2⟩
 ·rcases ae with⟨_,ae⟩|⟨rfl,_⟩
  ·exact h.fr.trn k j b ae
  ·exact⟨H9.1,H9.2.1⟩
 ·simp only[pS];split
  ·rename_i e;subst e;exact MD
  ·rw[VB];exact ajy _ _ (h.slot i)
 ·have aH:fresh st.n st.o k:=y5 (Nat.le_succ _) (fun _ h=>h) d;obtain⟨X,Y,iS⟩:=h.new k aH;refine⟨X,Y,fun j b ae=>?_⟩;rcases ae with⟨_,ae⟩|⟨rfl,_⟩
  ·exact iS j b ae
  ·have:=d.1;simp only at this;omega
 ·obtain⟨z,D⟩:=h.ext x F;refine⟨tV (S:=fun k=>k∉N) (w:=w) (Z:=Z) (w':=w) (Z':=μ) ⟨fun b o h=>⟨.inl h,rfl⟩,fun _ _ _ h=>h,fun g n u _ h=>⟨n,u,h,.inl ⟨rfl,rfl⟩⟩,fun _ _ _=>rfl,fun k j b d ae=>.inl ⟨d,ae⟩⟩ _ _ (tF (fun k d av=>Wz k av d) _ D) z,D⟩
end
section
open Go Go.RowKit
def eS:List ah->Prop
 |[]=>True
 |p::a=>(match p with| .slice _ _ xs=>xs.length<=lim| .str s=>s.length<=lim|_=>True)/\eS a
def eN:ah->Prop
 | .slice _ _ xs=>xs.length<=lim
 | .str s=>s.length<=lim
 | .agg cs=>eS cs
 |_=>True
def eV:List ah->Prop
 |[]=>True
 |p::r=>eN p/\eV r
def Pu{w:World}{Z:a8}:∀{cs:List ah} {us:List Value},c1 w Z cs us->eS cs
 |[],_,_=>trivial
 |c::cs,us,h=>by
  simp only[c1]at h;obtain⟨u,e,_,J,U⟩:=h;refine⟨?_,Pu U⟩;cases c<;>simp only<;>have b:=J.1<;>simp only[aV]at b
  ·exact b.2
  ·obtain⟨⟨a,cap,_,_,d,_⟩,_⟩:=b;exact d.2
def aaq{w:World}{Z:a8}{cs:List ah}{us:List Value}(h:iI w Z cs us):gN cs=true->eS cs:=fun a=>by rw[qR a]at h;exact Pu h
def aaD{w:World}{Z:a8}{p:ah}{v:Value}(h:aV w Z p v):eN p:=by
 cases p<;>simp only[eN]<;>simp only[aV]at h
 ·exact h.2
 ·obtain⟨⟨a,cap,_,_,b,_⟩,_⟩:=h;exact b.2
 ·obtain⟨us,_,U⟩:=h;exact Pu U
def aaB{w:World}{Z:a8}:∀{cs:List ah} {us:List Value},cN w Z cs us->eV cs
 |[],_,_=>trivial
 |c::cs,us,h=>by simp only[cN]at h;obtain⟨u,a,_,J,U⟩:=h;exact⟨aaD J,aaB U⟩
inductive C where
 |skip
 |region (gs:List ds)
 |drawn (q:Bool) (N:Nat) (gs:List ds)
 |drawnW (nw:List Nat) (N:Nat) (gs:List ds)
 |seq (a b:C)
 |cond (x:dv) (t e:C)
 |block (id:Nat) (c:C)
 |loop (c:C)
 |exit (id:Nat)
 |ret
 |pub (s:Nat) (c:C)
 |pubB (s:Nat) (c:C)
 |fg (qI:Bool) (s:Nat) (c:C)
 |fz (agg:Bool) (s:Nat) (c:C)
 |fd (s:Nat) (c:C)
 |no
def FC(st:bn):ah->aZ (ah×List (aB×er))
 | .row sz k n=>match look k st.e with
  |some ⟨n',el,a,some xs⟩=>if n'=n/\a=sz then some (.slice sz (.own k) xs,cG k ⟨n,el,sz,none⟩ st.e)else none
  |_=>none
 |_=>none
def wI(st:bn)(s:Nat):aZ bn:=
 match FC st (get s st.t)with
 |some (p,e)=>some {st with t:=put s p st.t,e:=e}
 |none=>none
def yi(st:bn)(s:Nat):aZ bn:=
 match get (s%1000) st.t with
 | .ptr k off=>match look k st.b with
  |some cs=>match cs[off+s/1000]? with
   |some p=>match FC st p with
    |some (a,e)=>if gN cs then some {st with b:=cG k (cs.set (off+s/1000) a) st.b,e:=e}else none
    |none=>none
   |none=>none
  |none=>none
 |_=>none
def Po{C:fb}{st:bn}{a:Act}{w:World}{Z:a8}(h:cZ C st a w Z){s:Nat}{p:ah}(b:aV w Z p (a.tmps.getD s undef)):cZ C {st with t:=put s p st.t} a w Z:=by
 refine⟨h.good,h.fr,h.defers,h.size,fun i=>?_,h.new,h.ext,h.obk⟩;have:=h.slot i;simp only[pS];split
 ·rename_i e;subst e;exact b
 ·exact this
def Zs{C:fb}{st:bn}{a:Act}{w:World}{Z:a8}(h:cZ C st a w Z){p m:ah}{e:List (aB×er)}{v:Value}(i:aV w Z p v)(he:FC st p=some (m,e)):
  ∃Z',cZ C {st with e:=e} a w Z'/\aV w Z' m v/\l1 w Z w Z':=by
 unfold FC at he;split at he
 ·rename_i sz k n;split at he
  ·rename_i n' el z xs l;split at he
   ·rename_i aA;obtain⟨rfl,rfl⟩:=aA;cases he;simp only[aV]at i;obtain⟨_,s,n0,u,J,U,r⟩:=i;obtain⟨v0,y,d,B,A,q⟩:=h.good.own k _ l;rw[J]at d;simp only[dz,hW]at d;obtain⟨rfl,rfl⟩:=d;have x:v=u:=r rfl;subst x;obtain⟨f,_,_⟩:=q xs rfl;simp only at f;obtain⟨g1,g2⟩:=h.publish l rfl J (by rw[f];exact s);refine⟨_,g1,g2,⟨fun b o bj=>⟨.inl bj,rfl⟩,fun j b _ t=>t,fun g n u _ c=>⟨n,u,?_,.inl ⟨rfl,rfl⟩⟩,fun _ _ _=>rfl,fun _ _ _ _ h=>h⟩⟩;simp only[a8.withRowOf];split
    ·rename_i e;subst e;rw[J]at c;exact c
    ·exact c
   ·cases he
  ·cases he
 ·cases he
def Bl(a:Bool):ah->ah
 | .slice sz tag xs=>.slice sz (if a then tag else .no) (cR xs)
 |p=>de p
def ahV{w:World}{Z:a8}{a:Bool}{p:ah}{v:Value}(h:aV w Z p v):aV w Z (Bl a p) v:=by
 have J:=Ao p v h;cases p with
 |slice sz tag xs=>
  simp only[Bl];cases a with
  |false=>simpa only[hI,if_false,de]using J
  |true=>
   simp only[if_true];simp only[aV,de]at h J⊢;refine⟨J.1,fun e=>h.2.1 e,fun g e=>?_,fun k j e=>?_,fun k e=>?_⟩
   ·obtain⟨n,u,c,d,b⟩:=h.2.2.1 g e;exact⟨n,u,c,by rw[nX];exact d,by rw[nX];exact b⟩
   ·exact L3 _ _ (h.2.2.2.1 k j e)
   ·exact L3 _ _ (h.2.2.2.2 k e)
 |_=>exact J
def ao5{C:fb}{st st':bn}{a:Act}{w:World}{Z:a8}(h:cZ C st a w Z){s:Nat}(he:wI st s=some st'):∃Z',cZ C st' a w Z':=by
 unfold wI at he;split at he
 ·rename_i p e b;cases he;obtain⟨Z',J,U,_⟩:=Zs h (h.slot s) b;exact⟨_,Po J U⟩
 ·cases he
def aay{w:World}{Z:a8}:∀{cs:List ah} {us:List Value} {i:Nat} {p q:ah} {v:Value},c1 w Z cs us->cs[i]? =some p->us[i]? =some v->aV w Z q v->c1 w Z (cs.set i q) us
 |[],_,_,_,_,_,_,h,_,_=>by simp at h
 |c::cs,us,0,p,q,v,h,_,a,b=>by simp only[c1]at h;obtain⟨u,e,rfl,J,U⟩:=h;simp only[List.getElem?_cons_zero,dz]at a;subst a;simp only[List.set_cons_zero,c1];exact⟨_,_,rfl,⟨b,J.2⟩,U⟩
 |c::cs,us,i+1,p,q,v,h,d,a,b=>by simp only[c1]at h;obtain⟨u,e,rfl,J,U⟩:=h;simp only[List.set_cons_succ,c1];exact⟨_,_,rfl,J,aay U (by simpa using d) (by simpa using a) b⟩
def ao4{C:fb}{st st':bn}{a:Act}{w:World}{Z:a8}(h:cZ C st a w Z){s:Nat}(he:yi st s=some st'):∃Z',cZ C st' a w Z':=by
 unfold yi at he;split at he
 ·rename_i k m N;generalize m+s/1000=off at he;split at he
  ·rename_i cs d;split at he
   ·rename_i p i;split at he
    ·rename_i K e H;split at he
     ·rename_i q;cases he;obtain⟨bl,us,el,g1,g2,g3,g4,g5⟩:=h.good.box k cs d;rw[qR q]at g5;have t:off<us.toList.length:=by rw[qU g5];exact(fp.1 i).1
      obtain⟨v,z⟩:∃v,us.toList[off]? =some v:=⟨_,cl t⟩;have L:aV w Z p v:=by have:=CK off g5;rw[mu (fp.1 i).1,mu t]at this;simp only[c1]at this;obtain⟨u,G,y,A,_⟩:=this;rw[(fp.1 i).2]at A;rw[(fp.1 z).2]at y;cases y;exact A.1
      obtain⟨Z',J,U,x⟩:=Zs h L H;have o:c1 w Z' (cs.set off K) us.toList:=aay (aax x g5) i z U;have B:=Ak o;refine⟨Z',⟨J.good.alt,fun j D c=>?_,fun j E b c f=>J.good.inj j E b ?_ ?_,J.good.own,J.good.oinj,fun g j n v b a1 c=>J.good.obx g j n v b a1 ?_,J.good.one,fun bl ae=>J.good.otr bl (ae.imp (fun⟨F,l,a2⟩=>⟨F,by rw[jL]at l;split at l;(rename_i e;subst e;simp[d]);exact l,a2⟩) id)⟩,J.fr,J.defers,J.size,J.slot,J.new,J.ext,J.obk⟩
      ·simp only at c;rw[jL]at c;split at c
       ·rename_i e;subst e;cases c;obtain⟨r,G,M,f1,f2,f3,f4,f5⟩:=J.good.box k cs d;have:r=bl:=by have:=x.bx k bl trivial g1;rw[this]at f1;cases f1;rfl
        subst this;rw[rE q]at g4 f4;rw[g4]at f4;injection f4 with f4;injection f4 with f4 f6 f7;refine⟨r,us,el,f1,f2,f3,by rw[rE B];exact g4,by rw[qR B];exact o⟩
       ·exact J.good.box j D c
      ·simp only at c;rw[jL]at c;split at c
       ·rename_i e;subst e;simp[d]
       ·exact c
      ·simp only at f;rw[jL]at f;split at f
       ·rename_i e;subst e;simp[d]
       ·exact f
      ·simp only at c;rw[jL]at c;split at c
       ·rename_i e;subst e;simp[d]
       ·exact c
     ·cases he
    ·cases he
   ·cases he
  ·cases he
 ·cases he
def uy{α:Type}(k:aB)(l:List (aB×α)):List (aB×α):=match l with
 |[]=>[]
 |(i,x)::r=>if i=k then uy k r else(i,x)::uy k r
def NQ{α:Type}(k j:aB):∀l:List (aB×α),look j (uy k l)=if j=k then none else look j l
 |[]=>by simp[uy,look]
 |(i,x)::r=>by
  simp only[uy];by_cases h:i=k
  ·subst h;rw[if_pos rfl,NQ i j r];by_cases U:j=i
   ·simp[U]
   ·have:¬i=j:=fun e=>U e.symm;simp[look,U,this]
  ·rw[if_neg h];simp only[look];by_cases U:i=j
   ·subst U;simp[h]
   ·simp only[U,if_false];exact NQ k j r
def L5(agg:Bool):List ah->aZ ah
 |[p]=>if agg then some (.agg [p])else some p
 |cs=>if agg then some (.agg cs)else none
def xv(st:bn)(agg:Bool)(s:Nat):aZ bn:=
 match get s st.t with
 | .ptr k 0=>match look k st.b with
  |some cs=>if gN cs then match L5 agg cs with
    |some x=>some {st with t:=put s (.eptr x) st.t,b:=uy k st.b}
    |none=>none
   else none
  |none=>none
 |_=>none
def aoQ{u:Value}(h:u.oneCell'=true):u.cells.toList=[u]:=by cases u<;>first|rfl|(simp[Value.oneCell']at h)
def X3{w:World}{A:Nat->Nat->Prop}{b:Nat}{us:Array Value}{el:fF}(ae:w.heap[b]? =some (.cells us el))(bj:∀o,o<us.size->A b o):∀(bf:List Value) (off:Nat),us.toList.drop off=bf->lB w A b off bf
 |[],_,_=>trivial
 |v::bf,off,h=>by
  have a:off<us.toList.length:=by
   rcases Nat.lt_or_ge off us.toList.length with J|J
   ·exact J
   ·rw[List.drop_eq_nil_of_le J]at h;cases h
  have U:=mu a;rw[h]at U;injection U with U d;refine⟨⟨bj off (by simpa using a),?_⟩,X3 ae bj bf (off+1) d.symm⟩;have c:off<us.size:=by simpa using a
  simp only[World.cell?,ae,ny,hI,if_false];rw[U];simp[c]
def aid{C:fb}{st st':bn}{a:Act}{w:World}{Z:a8}(h:cZ C st a w Z){agg:Bool}{s:Nat}(he:xv st agg s=some st'):∃Z',cZ C st' a w Z':=by
 unfold xv at he;split at he
 ·rename_i k ad;split at he
  ·rename_i cs t;split at he
   ·rename_i E;split at he
    ·rename_i x c;cases he;obtain⟨bl,us,el,g1,g2,g3,g4,g5⟩:=h.good.box k cs t;rw[qR E]at g5;rw[rE E]at g4;have X:bl<w.heap.size:=by
      rcases Nat.lt_or_ge bl w.heap.size with J|J
      ·exact J
      ·rw[Array.getElem?_eq_none J]at g4;cases g4
     let Z':a8:={Z with A:=fun b o=>Z.A b o\/(b=bl/\o<us.size)}
     have al:l1 w Z w Z':=⟨fun b o bj=>⟨.inl bj,rfl⟩,fun j b _ d=>d,fun g n u _ P=>⟨n,u,P,.inl ⟨rfl,rfl⟩⟩,fun _ _ _=>rfl,fun _ _ _ _ h=>h⟩;have F:∀j f,look j (uy k st.b)=some f->j≠k/\look j st.b=some f:=fun j f d=>by
      rw[NQ]at d;split at d
      ·cases d
      ·rename_i e;exact⟨e,d⟩
     have r:∀j,(look j (uy k st.b)).isSome->(look j st.b).isSome:=fun j d=>by obtain⟨f,Q⟩:=gk.1 d;simp[(F j f Q).2]
     have M:∀(g:aB) (n:Nat) (v:Value),(look g st.e).isSome->Z.ow g=some (n,v)->v.ownBlock=some bl->eF:=fun g n v J U aq=>h.good.obx g k n v bl J (by simp[t]) U aq g1;have N:aV w Z' (.eptr x) (a.tmps.getD s undef):=by
      have B:=h.slot s;rw[ad]at B;simp only[aV]at B⊢;obtain⟨cf,K,y⟩:=B;rw[g1]at K;cases K;have z:lB w Z'.A bl 0 us.toList:=X3 g4 (fun o al=>.inr ⟨rfl,al⟩) _ 0 rfl;have g6:c1 w Z' cs us.toList:=aax al g5;unfold L5 at c;split at c
      ·rename_i p;simp only[c1]at g6;obtain⟨u,L,l,m,q⟩:=g6;subst q;split at c
       ·cases c;exact⟨bl,0,.agg us,y,by simp only[aV];exact⟨us,rfl,by rw[l];simp only[c1];exact⟨u,[],rfl,m,rfl⟩⟩,by simpa[nu]using z⟩
       ·cases c;refine⟨bl,0,u,y,m.1,?_⟩;rw[aoQ m.2,<-l];exact z
      ·split at c
       ·cases c;exact⟨bl,0,.agg us,y,by simp only[aV];exact⟨us,rfl,g6⟩,by simpa[nu]using z⟩
       ·cases c
     refine⟨Z',Po (Z:=Z') (st:={st with b:=uy k st.b}) ⟨⟨fun b o bj=>?_,fun j f d=>?_,fun j H b J U=>h.good.inj j H b (r j J) (r H U),fun g o a1=>?_,h.good.oinj,fun g j n v b J U=>h.good.obx g j n v b J (r j U),h.good.one,fun b aM=>h.good.otr b (aM.imp (fun⟨j,Y,a2⟩=>⟨j,r j Y,a2⟩) id)⟩,⟨h.fr.os,h.fr.tape,h.fr.output,h.fr.size,h.fr.block,fun b o bj=>⟨.inl (h.fr.keep b o bj).1,(h.fr.keep b o bj).2⟩,fun b o bj=>?_,h.fr.obj,h.fr.obn,h.fr.row,h.fr.obr,h.fr.trd,h.fr.trb,h.fr.trn,h.fr.sh,h.fr.nrow⟩,h.defers,h.size,fun i=>wQ al (h.slot i),h.new,fun x c=>⟨wQ al (h.ext x c).1,(h.ext x c).2⟩,h.obk⟩ N⟩
     ·rcases bj with bj|⟨rfl,_⟩
      ·exact h.good.alt b o bj
      ·exact X
     ·obtain⟨W,G⟩:=F j f d;obtain⟨O,L,S,f1,f2,f3,f4,f5⟩:=h.good.box j f G;refine⟨O,L,S,f1,f2,fun o bj=>?_,f4,qT al f5⟩;rcases bj with bj|⟨rfl,_⟩
      ·exact f3 o bj
      ·exact W (h.good.inj j k _ (by simp[G]) (by simp[t]) f1 g1)
     ·obtain⟨v0,R,l,m,q,V⟩:=h.good.own g o a1;have D:∀b,v0.ownBlock=some b->∀j,Z'.A b j->Z.A b j:=fun b ae j bj=>by
       rcases bj with bj|⟨rfl,_⟩
       ·exact bj
       ·exact(M g _ v0 (by simp[a1]) l ae).elim
      exact⟨v0,R,l,m,fun b ae=>⟨(q b ae).1,fun j bj=>(q b ae).2 j (D b ae j bj)⟩,sy al D V⟩
     ·rcases bj with bj|⟨rfl,_⟩
      ·exact h.fr.fresh b o bj
      ·exact .inr g2
    ·cases he
   ·cases he
  ·cases he
 ·cases he
def tU(st:bn)(x:dv)(b:Bool):bn:=match x with
 | .t i=>{st with t:=put i (.bool b) st.t}
 | .c _=>st
def rC(nw:List Nat)(o:List aB):List Nat:=nw.filter fun j=>decide (aB.obj j∉o)
def amE{nw:List Nat}{o:List aB}:∀j∈rC nw o,aB.obj j∉o:=fun j a=>by have:=(n3.1 a).2;simpa using this
def dh(P:cE)(ob:List aB):C->(Exit->bn->Prop)->bn->Prop
 | .skip,Q,st=>Q .normal st
 | .region gs,Q,st=>hY P ob gs st (Q .normal)
 | .drawn q N gs,Q,st=>iC P q [] st.n gs st (vq (st.n+N) st.o (Q .normal))
 | .drawnW nw N gs,Q,st=>iC P false (rC nw st.o) st.n gs st (vq (st.n+N) ((rC nw st.o).map aB.obj++st.o) (Q .normal))
 | .seq a b,Q,st=>dh P ob a (fun e st'=>match e with| .normal=>dh P ob b Q st'|e=>Q e st') st
 | .cond x t e,Q,st=>match cg st.t x with
  | .bool b=>(b=true->dh P ob t Q (tU st x true))/\(b=false->dh P ob e Q (tU st x false))
  |_=>eF
 | .block id c,Q,st=>dh P ob c (fun e st'=>match e with| .exit j=>if j=id then Q .normal st' else Q (.exit j) st'|e=>Q e st') st
 | .loop c,Q,st=> ∃(d:Nat->bn->Prop) (m:Nat) (f:bn),jE ob st f/\d m f/\
   ∀k s,d k s->(∀i,eN (get i s.t))->(∀j cs,look j s.b=some cs->gN cs=true->eS cs)->dh P ob c (fun e l=>match e with| .normal=> ∃h g,h<k/\jE ob l g/\d h g|e=>Q e l) s
 | .exit id,Q,st=>Q (.exit id) st
 | .ret,Q,st=>Q .ret st
 | .pub s c,Q,st=>match wI st s with
  |some st'=>dh P ob c Q st'
  |none=>eF
 | .pubB s c,Q,st=>match yi st s with
  |some st'=>dh P ob c Q st'
  |none=>eF
 | .fg n s c,Q,st=>dh P ob c Q {st with t:=put s (Bl n (get s st.t)) st.t}
 | .fd s c,Q,st=>DP ob st s/\dh P ob c Q (Bk st s)
 | .fz o s c,Q,st=>match xv st o s with
  |some st'=>dh P ob c Q st'
  |none=>eF
 | .no,_,_=>eF
def hK(N:Nat)(aT:List (Nat×eJ)):C->Code->Bool
 | .skip,.skip=>true
 | .region gs,.region _ ops false=>lh N aT ops.toList gs ops.toList
 | .drawn _ N' gs,.region _ ops true=>N'==N&&lh N aT ops.toList gs ops.toList&&Di gs ops.toList&&A9 N gs
 | .drawnW _ N' gs,.region _ ops true=>N'==N&&lh N aT ops.toList gs ops.toList&&Di gs ops.toList&&A9 N gs
 | .seq a b,.seq x y=>hK N aT a x&&hK N aT b y
 | .cond x t e,.cond o h g=>eC x o&&hK N aT t h&&hK N aT e g
 | .block id c,.block f d=>id==f&&hK N aT c d
 | .loop c,.loop d=>hK N aT c d
 | .exit id,.exit f=>id==f
 | .ret,.ret=>true
 | .pub _ c,d=>hK N aT c d
 | .pubB _ c,d=>hK N aT c d
 | .fg _ _ c,d=>hK N aT c d
 | .fz _ _ c,d=>hK N aT c d
 | .fd _ c,d=>hK N aT c d
 | .no,_=>true
 |_,_=>false
def VK{N:Nat}{aT:List (Nat×eJ)}{ops:List Oper}:∀{gs:List ds} {os:List Oper},lh N aT ops gs os=true->gs.length=os.length
 |[],[],_=>rfl
 |[],_::_,h=>by simp[lh]at h
 |_::_,[],h=>by simp[lh]at h
 |g::gs,o::os,h=>by simp only[lh,cD]at h;simp[VK h.2]
def Q0(P:cE)(C:fb)(c:Code)(Q:Exit->bn->Prop)(st:bn):Prop:= ∀a w Z,cZ C st a w Z->c.wp P (fun e bu w'=> ∃st' Z',Q e st'/\cZ C st' bu w' Z') a w
def r9{P:cE}(hm:P.follows .mixedOrders=true){aT:List (Nat×eJ)}(aM:hl P aT=true){X:fb}:∀(c:C) (code:Code) (Q:Exit->bn->Prop) (st:bn),hK X.N aT c code=true->dh P X.ob c Q st->Q0 P X code Q st
 | .skip,code,Q,st,al,he=>by
  cases code<;>simp only[hK]at al<;>try cases al
  intro a w Z d;exact wp_skip ⟨st,Z,he,d⟩
 | .region gs,code,Q,st,al,he=>by
  cases code<;>try(simp[hK]at al;done)
  rename_i id ops draw;cases draw<;>simp only[hK]at al
  ·intro a w Z d;refine wp_region ?_;have R:gs.length=ops.size:=by simpa using VK al
   rw[List.range_eq_range',<-R];exact UE aM (K:=Q .normal) (fun st' bu w' Z' J U=>⟨st',Z',J,U⟩) gs ops.toList 0 Ψ al st a w Z he d
  ·cases al
 | .drawn q N gs,code,Q,st,al,he=>by
  cases code<;>try(simp[hK]at al;done)
  rename_i id ops draw;cases draw<;>simp only[hK]at al
  ·cases al
  ·simp only[cD,dW]at al;obtain⟨⟨⟨rfl,J⟩,U⟩,u⟩:=al;intro a w Z d;exact UD hm aM J U u (nw:=[]) (K:=Q .normal) (fun st' bu w' Z' J U=>⟨st',Z',J,U⟩) Ψ he d
 | .drawnW nw N gs,code,Q,st,al,he=>by
  cases code<;>try(simp[hK]at al;done)
  rename_i id ops draw;cases draw<;>simp only[hK]at al
  ·cases al
  ·simp only[cD,dW]at al;obtain⟨⟨⟨rfl,J⟩,U⟩,u⟩:=al;intro a w Z d;exact UD hm aM J U u (nw:=rC nw st.o) (K:=Q .normal) (fun st' bu w' Z' J U=>⟨st',Z',J,U⟩) amE he d
 | .seq x y,code,Q,st,al,he=>by
  cases code<;>try(simp[hK]at al;done)
  rename_i E G;simp only[hK,cD]at al;intro a w Z d;refine wp_seq ?_;have J:=r9 hm aM x E _ st al.1 he a w Z d;refine wp_mono J fun e bu w' h=>?_;obtain⟨st',Z',f,g⟩:=h;cases e with
  |normal=>exact r9 hm aM y G Q st' al.2 f bu w' Z' g
  |_=>exact⟨st',Z',f,g⟩
 | .cond x t e,code,Q,st,al,he=>by
  cases code<;>try(simp[hK]at al;done)
  rename_i o z ce;simp only[hK,cD]at al;intro a w Z d;simp only[dh]at he;have A:=eD d al.1.1;split at he
  ·rename_i b ae;rw[ae]at A;simp only[aV]at A;have B:cZ X (tU st x b) a w Z:=by
    unfold tU;split
    ·exact Pn d (by simpa[cg]using ae)
    ·exact d
   refine wp_cond A ?_;cases b
   ·exact r9 hm aM e ce Q _ al.2 (he.2 rfl) a w Z B
   ·exact r9 hm aM t z Q _ al.1.2 (he.1 rfl) a w Z B
  ·exact he.elim
 | .block id c,code,Q,st,al,he=>by
  cases code<;>try(simp[hK]at al;done)
  rename_i W r;simp only[hK,cD,dW]at al;obtain⟨rfl,al⟩:=al;intro a w Z d;refine wp_block ?_;refine wp_mono (r9 hm aM c r _ st al he a w Z d) fun e bu w' h=>?_;obtain⟨st',Z',f,g⟩:=h;cases e with
  |exit j=>
   simp only[Exit.inBlock]at f⊢;by_cases n:j=id
   ·rw[if_pos n]at f⊢;exact⟨st',Z',f,g⟩
   ·rw[if_neg n]at f⊢;exact⟨st',Z',f,g⟩
  |_=>exact⟨st',Z',f,g⟩
 | .loop c,code,Q,st,al,he=>by
  cases code<;>try(simp[hK]at al;done)
  rename_i r;simp only[hK]at al;intro a w Z d;simp only[dh]at he;obtain⟨L,m,D,hw,hi,H⟩:=he;refine wp_loop_ghost (fun k a w=> ∃s Z,L k s/\cZ X s a w Z) m ⟨D,_,hi,d.weaker hw⟩ ?_;intro k a w v;obtain⟨s,Z,l,p⟩:=v;have J:=H k s l (fun i=>aaD (p.slot i)) (fun j cs n=>by obtain⟨bl,us,el,_,_,_,_,g5⟩:=p.good.box j cs n;exact aaq g5);refine wp_mono (r9 hm aM c r _ s al J a w Z p) fun e bu w' h=>?_;obtain⟨st',Z',f,g⟩:=h;cases e with
  |normal=>obtain⟨M,F,S,V,O⟩:=f;exact⟨M,S,F,_,O,g.weaker V⟩
  |_=>exact⟨st',Z',f,g⟩
 | .exit id,code,Q,st,al,he=>by
  cases code<;>try(simp[hK]at al;done)
  rename_i W;simp only[hK,dW]at al;subst al;intro a w Z d;exact wp_exit ⟨st,Z,he,d⟩
 | .ret,code,Q,st,al,he=>by
  cases code<;>try(simp[hK]at al;done)
  intro a w Z d;exact wp_ret ⟨st,Z,he,d⟩
 | .pub s c,code,Q,st,al,he=>by
  simp only[hK]at al;simp only[dh]at he;split at he
  ·rename_i st' l;intro a w Z d;obtain⟨Z',J⟩:=ao5 d l;exact r9 hm aM c code Q st' al he a w Z' J
  ·exact he.elim
 | .pubB s c,code,Q,st,al,he=>by
  simp only[hK]at al;simp only[dh]at he;split at he
  ·rename_i st' l;intro a w Z d;obtain⟨Z',J⟩:=ao4 d l;exact r9 hm aM c code Q st' al he a w Z' J
  ·exact he.elim
 | .fg Y s c,code,Q,st,al,he=>by simp only[hK]at al;simp only[dh]at he;intro a w Z d;exact r9 hm aM c code Q _ al he a w Z (Po d (ahV (d.slot s)))
 | .fd s c,code,Q,st,al,he=>by simp only[hK]at al;simp only[dh]at he;intro a w Z d;obtain⟨Z',J⟩:=ahU d he.1;exact r9 hm aM c code Q _ al he.2 a w Z' J
 | .fz gU s c,code,Q,st,al,he=>by
  simp only[hK]at al;simp only[dh]at he;intro a w Z d;split at he
  ·rename_i st' dd;obtain⟨Z',J⟩:=aid d dd;exact r9 hm aM c code Q st' al he a w Z' J
  ·exact he.elim
 | .no,code,Q,st,al,he=>by simp only[dh]at he
inductive bS where
 |tmp (i:Nat)
 |cell (i:Nat) (agg:Bool) (sz:Nat)
def aY(st:bn):bS->aZ (Prop×ah)
 | .tmp i=>some (True,get i st.t)
 | .cell i agg sz=>nR st.b st.e agg sz (get i st.t)
def aX(st:bn):List bS->aZ (Prop×List ah)
 |[]=>some (True,[])
 |r::a=>match aY st r,aX st a with
  |some (c,p),some (d,b)=>some (c/\d,p::b)
  |_,_=>none
def rF(aT:List (Nat×eJ)):List bS->List ResultVar->Bool
 |[],[]=>true
 | .tmp i::a,.tmp j::os=>i==j&&rF aT a os
 | .cell i agg sz::a,.cell j t::os=>i==j&&(match eo aT t with|some f=>f.size==sz&&f.kind.isAgg==agg|none=>false)&&rF aT a os
 |_,_=>false
def aW:List ah->ah
 |[p]=>p
 |a=>.tuple a
def JL(tmps:Array Value):ResultVar->Sem Value
 | .tmp t=>pure (tmps.getD t undef)
 | .cell x t=>do loadVar t (<-asAddr (tmps.getD x undef))
def aqs(fn:Func)(tmps:Array Value):results fn tmps=(do let bf<-fn.results.mapM (JL tmps);pure (if h:bf.size=1 then bf[0]else .tuple bf)):=by unfold results;congr 2
def PB{P:cE}{aT:List (Nat×eJ)}(aM:hl P aT=true){X:fb}{st:bn}{a:Act}{w:World}{Z:a8}(g:cZ X st a w Z):
  ∀(h:List bS) (os:List ResultVar) (c:Prop) (s:List ah),rF aT h os=true->aX st h=some (c,s)->c->
  ∃bf,(os.mapM (JL a.tmps)).run P w= .ok bf w/\cN w Z s bf
 |[],[],c,s,_,he,_=>by simp only[aX]at he;cases he;exact⟨[],Ψ,by simp[cN]⟩
 |[],_::_,_,_,al,_,_=>by simp[rF]at al
 | .tmp _::_,[],_,_,al,_,_=>by simp[rF]at al
 | .cell _ _ _::_,[],_,_,al,_,_=>by simp[rF]at al
 |r::h,o::os,c,s,al,he,aA=>by
  simp only[aX]at he;split at he
  ·rename_i H p c2 z J U;cases he;cases r with
   |tmp i=>
    cases o with
    |cell _ _=>simp[rF]at al
    |tmp j=>simp only[rF,cD,dW]at al;obtain⟨rfl,al⟩:=al;simp only[aY]at J;cases J;obtain⟨bf,g1,g2⟩:=PB aM g h os c2 z al U aA.2;refine⟨a.tmps.getD i undef::bf,?_,by simp only[cN];exact⟨_,_,rfl,g.slot i,g2⟩⟩;simp only[List.mapM_cons,fB,JL,gx,fE,g1]
   |cell i agg sz=>
    cases o with
    |tmp _=>simp[rF]at al
    |cell j t=>
     simp only[rF,cD,dW]at al;obtain⟨⟨rfl,x⟩,al⟩:=al;split at x
     ·rename_i f B;simp only[cD,dW]at x;obtain⟨rfl,rfl⟩:=x;simp only[aY]at J;obtain⟨bf,g1,g2⟩:=PB aM g h os c2 z al U aA.2;obtain⟨v,f1,f2⟩:=IC aM g.good B (g.slot i) J aA.1;have D:∃m,a.tmps.getD i undef= .pointer (some m):=by
       have d:=g.slot i;unfold nR at J;split at J
       ·rename_i G k n E F l;rw[l]at d;simp only[aV]at d;obtain⟨⟨b,o,e⟩,_⟩:=d;exact⟨_,e⟩
       ·rename_i k off l;rw[l]at d;simp only[aV]at d;obtain⟨b,_,e⟩:=d;exact⟨_,e⟩
       ·rename_i q l;rw[l]at d;simp only[aV]at d;obtain⟨b,off,u,e,_⟩:=d;exact⟨_,e⟩
       ·cases J
      obtain⟨m,A⟩:=D;rw[A]at f1;simp only[Instr.loadAt,Instr.sureAddr,fB,gx,fE]at f1;refine⟨v::bf,?_,by simp only[cN];exact⟨_,_,rfl,f2,g2⟩⟩;have y:(asAddr (.pointer (some m)):Sem Addr).run P w= .ok m w:=rfl;simp only[List.mapM_cons,fB,JL,gx,fE,g1,A,y,f1]
     ·cases x
  ·cases he
def FO{w:World}{Z:a8}:∀{a:List ah} {bf:List Value},cN w Z a bf->bf.length=a.length
 |[],bf,h=>by simp only[cN]at h;subst h;rfl
 |p::a,bf,h=>by simp only[cN]at h;obtain⟨u,b,rfl,_,U⟩:=h;simp[FO U]
def j7:Nat->List ah->List (Nat×ah)
 |_,[]=>[]
 |i,p::a=>(i,p)::j7 (i+1) a
def Hw:∀(a:List ah) (i j:Nat),get j (j7 i a)=if i<=j/\j<i+a.length then a.getD (j-i) .junk else .junk
 |[],i,j=>by simp[j7,get]
 |p::a,i,j=>by
  simp only[j7,get];by_cases h:i=j
  ·subst h;simp
  ·rw[if_neg h,Hw a (i+1) j];by_cases U:i<=j/\j<i+(p::a).length
   ·rw[if_pos U,if_pos (by simp at U⊢;omega)];have:j-i=(j-(i+1))+1:=Ω
    rw[this];simp
   ·rw[if_neg U,if_neg (by simp at U⊢;omega)]
def ho{α:Type}(a:cS):List (aB×α)->Prop
 |[]=>True
 |(k,_)::r=>inObs a k/\ho a r
def B4{α:Type}{b:cS}:∀{l:List (aB×α)},ho b l->∀k,(look k l).isSome->inObs b k
 |[],_,k,h=>by simp[look]at h
 |(i,x)::r,a,k,h=>by
  simp only[ho]at a;simp only[look]at h;split at h
  ·rename_i e;subst e;exact a.1
  ·exact B4 a.2 k h
def cJ(d:List bS)(s:cS)(Q:ah->cS->Prop)(e:Exit)(st:bn):Prop:=
 (e= .ret\/e= .normal)/\match aX st d with
  |some (c,b)=>c/\∃a,ho a s.b/\ho a s.e/\hs (inObs a) a.b st.b/\qc (inObs a) a.e st.e/\jv a/\au (inObs a) (de (aW b))/\Q (de (aW b)) a
  |none=>eF
def bG.ofW{P:cE}{aT:List (Nat×eJ)}(aM:hl P aT=true){f:FuncId}{fn:Func}(aH:P.funcs[f]? =some fn){code:Code}(ae:fn.body=some code)(zz:(fn.name== "runtime.NumGoroutine")=false){fD:List bS}(zC:rF aT fD fn.results.toList=true)
  {args:List ah} (ao:args.length<=fn.ntmps) {s:cS} (nK:jv s) {Q:ah->cS->Prop} (he:∀X:fb,X.N=fn.ntmps->X.ob=di s->X.ex=[]->(∀b o,X.Z0.A b o->b<X.w0.heap.size)->eV args->(∀j cs,look j s.b=some cs->gN cs=true->eS cs)->Q0 P X code (cJ fD s Q) ⟨j7 0 args,s.b,s.e,0,di s⟩):bG P f args s Q:=by
 intro w Z bf gl a1 ab aD;refine .inl ⟨⟨fn,aH,by simp[ae],zz⟩,?_⟩;have mf:=FO aD;have ju:bf.size=args.length:=by simpa using mf
 let X:fb:=⟨w,Z,gh Z s,fn.ntmps,di s,gl,[]⟩
 have pZ:∀k,fresh 0 (di s) k->Z.bx k=none/\Z.ow k=none/\∀j b,¬Z.tr k j b:=by
  intro k ad;cases k with
  |loc m=>exact⟨(ab _).1 (nK.1 m),(ab _).2.1 (nK.2 m),(ab _).2.2⟩
  |obj m=>
   simp only[fresh,true_and]at ad;refine⟨?_,?_,(ab _).2.2⟩
   ·refine(ab _).1 ?_;cases h:look (.obj m) s.b with
    |none=>rfl
    |some x=>exact absurd (u7 (.inl (by simp[h]))) ad
   ·refine(ab _).2.1 ?_;cases h:look (.obj m) s.e with
    |none=>rfl
    |some x=>exact absurd (u7 (.inr (by simp[h]))) ad
 have j4:∀m,(Z.bx (.obj m)≠none\/Z.ow (.obj m)≠none)-> .obj m∈di s:=by
  intro m hm;refine Classical.byContradiction fun aA=>?_;obtain⟨J,U,_⟩:=pZ (.obj m) ⟨trivial,aA⟩;rcases hm with hm|hm
  ·exact hm J
  ·exact hm U
 have oA:cZ X ⟨j7 0 args,s.b,s.e,0,di s⟩ {tmps:=bf++Array.replicate (fn.ntmps-bf.size) undef,defers:=[]} w Z:=by
  refine⟨⟨a1.alt,fun k cs ad=>?_,a1.inj,fun g o fA=>?_,a1.oinj,a1.obx,a1.one,a1.otr⟩,⟨rfl,rfl,rfl,e2 _,fun _ _ _=>rfl,fun b o h=>⟨h,rfl⟩,fun b o h=>.inl h,fun n b h=>h,fun n b h=>j4 n (.inl (by rw[h];simp)),fun m n u h=>⟨n,u,h,.inl ⟨rfl,rfl⟩⟩,fun m n u h=>j4 m (.inr (by rw[h];simp)),fun k j _ _ b h=>absurd h ((ab k).2.2 j b),fun k j b h=>absurd h ((ab k).2.2 j b),fun k j b h=>absurd h ((ab k).2.2 j b),fun _ _ _=>rfl,fun j n u b ai _=>(by rw[(ab _).2.1 (nK.2 j)]at ai;cases ai)⟩,rfl,?_,fun i=>?_,pZ,fun _ ab=>(by cases ab),fun m hm aH=>aH.2 hm⟩
  ·obtain⟨bl,us,el,g1,g2,g3⟩:=a1.box k cs ad;exact⟨bl,us,el,g1,.inl g2,g3⟩
  ·obtain⟨v,us,g1,g2,g3,g4⟩:=a1.own g o fA;exact⟨v,us,g1,g2,fun bl ed=>⟨.inl (g3 bl ed).1,(g3 bl ed).2⟩,g4⟩
  ·show(bf++Array.replicate (fn.ntmps-bf.size) undef).size=fn.ntmps;simp;omega
  ·rw[Hw];by_cases hi:i<args.length
   ·rw[if_pos Ω];have v7:args[i]? =some args[i]:=cl hi;obtain⟨v,ai,aC⟩:=JE i aD v7;have aL:(bf++Array.replicate (fn.ntmps-bf.size) undef).getD i undef=v:=by
     have Hc:bf[i]? =some v:=by simpa using ai
     rw[Array.getD_eq_getD_getElem?,Array.getElem?_append_left Ω,Hc];rfl
    show aV w Z _ ((bf++Array.replicate (fn.ntmps-bf.size) undef).getD i undef);rw[aL];simpa[List.getD,v7]using aC
   ·rw[if_neg Ω];simp[aV]
 have akS:=he X rfl rfl rfl a1.alt (aaB aD) (fun j cs af=>by obtain⟨bl,us,el,_,_,_,_,g5⟩:=a1.box j cs af;exact aaq g5) _ w Z oA;refine calls_of_wp aH ae (wp_mono akS fun e bu w' cV=>?_);obtain⟨st',Z',⟨tn,bA⟩,dL⟩:=cV;cases l8:aX st' fD with
 |none=>simp[l8]at bA
 |some x=>
  obtain⟨cB,cw⟩:=x;simp only[l8]at bA;obtain⟨ia,aj,kb,ke,be,bC,bY,c8,df⟩:=bA;obtain⟨yo,g1,g2⟩:=PB aM dL fD fn.results.toList cB cw zC l8 ia;have aky:=FO g2;have dY:bu.defers=[]/\∃v,(results fn bu.tmps).run P w'= .ok v w'/\(fun(e:Ending) w'=> ∃v r aj Z',e= .returned v/\Q r aj/\aV w' Z' r v/\Good (fun bl=>gh Z s bl\/w.heap.size<=bl) w' Z' aj.b aj.e/\qx Z' aj/\jv aj/\ql ⟨w,Z,gh Z s,0,di s,gl,[]⟩ w' Z') (.returned v) w':=by
   refine⟨dL.defers,?_⟩;have ig:(results fn bu.tmps).run P w'= .ok (if h:yo.toArray.size=1 then yo.toArray[0]else .tuple yo.toArray) w':=by rw[aqs];simp only[fB,Array.mapM_eq_mapM_toList,Sem.run_map,g1,fE,gx]
   refine⟨_,ig,_,de (aW cw),aj,Z'.cut (inObs aj),rfl,df,?_,dL.good.cut be bC (fun bl h _=>h),?_,bY,?_⟩
   ·have k3:aV w' Z' (aW cw) (if h:yo.toArray.size=1 then yo.toArray[0]else .tuple yo.toArray):=by
     match cw,yo,g2,aky with
     |[p],[v],g2,_=>simp only[cN]at g2;obtain⟨u,b5,ai,aC,_⟩:=g2;cases ai;simpa[aW]using aC
     |[],[],g2,_=>simp[aW,aV,cN]
     |p::dx::cw,v::v2::yo,g2,_=>rw[dif_neg Ψ];simp only[aW,aV];exact⟨_,rfl,by simpa using g2⟩
     |[_],[],_,h=>simp at h
     |[],_::_,_,h=>simp at h
     |[_],_::_::_,_,h=>simp at h
     |_::_::_,[],_,h=>simp at h
     |_::_::_,[_],_,h=>simp at h
    exact tV (pE.cut _ w' Z') _ _ c8 (Ao _ _ k3)
   ·intro k;refine⟨?_,?_,?_⟩;rotate_left 2
    ·rintro j b ⟨ag,ae⟩;obtain⟨t1,t2⟩:=dL.fr.trn k j b ae;rcases ag with ag|ag<;>obtain⟨x,jf⟩:=gk.1 ag
     ·obtain⟨bl,b5,el,ai,_⟩:=dL.good.box k x (be k x jf).1;rw[t1]at ai;cases ai
     ·obtain⟨v',b5,ai,_⟩:=dL.good.own k x (bC k x jf).1;rw[t2]at ai;cases ai
    ·intro ad;by_cases ag:inObs aj k
     ·rw[a8.cut_bx ag];rcases ag with ag|ag
      ·rw[ad]at ag;cases ag
      ·obtain⟨x,jf⟩:=gk.1 ag;obtain⟨v',b5,ai,_⟩:=dL.good.own k x (bC k x jf).1;rcases dL.good.one k with J|J
       ·exact J
       ·rw[J]at ai;cases ai
     ·exact(a8.cut_no ag).1
    ·intro ad;by_cases ag:inObs aj k
     ·rw[a8.cut_ow ag];rcases ag with ag|ag
      ·obtain⟨x,jf⟩:=gk.1 ag;obtain⟨bl,b5,el,ai,_⟩:=dL.good.box k x (be k x jf).1;rcases dL.good.one k with J|J
       ·rw[J]at ai;cases ai
       ·exact J
      ·rw[ad]at ag;cases ag
     ·exact(a8.cut_no ag).2.1
   ·refine⟨dL.fr.os,dL.fr.tape,dL.fr.output,dL.fr.size,dL.fr.block,dL.fr.keep,dL.fr.fresh,fun n b h=>?_,fun n b h=>j4 n (.inl (by rw[h];simp)),fun m n u h=>?_,fun m n u h=>j4 m (.inr (by rw[h];simp)),fun k j bt dj b J U=>dL.fr.trd k j bt dj b J.2 U.2,fun k j b ae=>dL.fr.trb k j b ae.2,fun k j b ae=>(by rw[a8.cut_bx ae.1,a8.cut_ow ae.1];exact dL.fr.trn k j b ae.2),dL.fr.sh,fun j n u b ai aC=>dL.fr.nrow j n u b (a8.cut_someO ai).2 aC⟩
    ·have ag:inObs aj (.obj n):=by
      cases ao:look (.obj n) s.b with
      |none=>rw[(ab _).1 ao]at h;cases h
      |some x=>exact B4 kb _ (by simp[ao])
     rw[a8.cut_bx ag];exact dL.fr.obj n b h
    ·have ag:inObs aj (.obj m):=by
      cases ao:look (.obj m) s.e with
      |none=>rw[(ab _).2.1 ao]at h;cases h
      |some x=>exact B4 ke _ (by simp[ao])
     rw[a8.cut_ow ag];exact dL.fr.row m n u h
  rcases tn with rfl|rfl<;>exact dY
def bG.of{P:cE}(hm:P.follows .mixedOrders=true){aT:List (Nat×eJ)}(aM:hl P aT=true){f:FuncId}{fn:Func}(aH:P.funcs[f]? =some fn){code:Code}(ae:fn.body=some code)(zz:(fn.name== "runtime.NumGoroutine")=false){c:C}(aA:hK fn.ntmps aT c code=true){fD:List bS}(zC:rF aT fD fn.results.toList=true)
  {args:List ah} (ao:args.length<=fn.ntmps) {s:cS} (nK:jv s) {Q:ah->cS->Prop} (he:eV args->(∀j cs,look j s.b=some cs->gN cs=true->eS cs)->dh P (di s) c (cJ fD s Q) ⟨j7 0 args,s.b,s.e,0,di s⟩):bG P f args s Q:=
 bG.ofW aM aH ae zz zC ao nK fun X mW sg _ _ J U=>r9 hm aM c code _ _ (by rw[mW];exact aA) (by rw[sg];exact he J U)
def b4(aT:List (Nat×eJ))(c:C)(fD:List bS)(amB:Nat)(fn:Func):Bool:=
 match fn.body with
 |some code=>hK fn.ntmps aT c code&&rF aT fD fn.results.toList&& !(fn.name== "runtime.NumGoroutine")&&decide (amB<=fn.ntmps)
 |none=>false
def bG.mk{P:cE}(hm:P.follows .mixedOrders=true){aT:List (Nat×eJ)}(aM:hl P aT=true){f:FuncId}{fn:Func}(h:P.funcs[f]? =some fn){c:C}{b:List bS}{n:Nat}(a:b4 aT c b n fn=true)
  {args:List ah} (g:args.length<=n) {s:cS} (d:jv s) {Q:ah->cS->Prop} (he:eV args->(∀j cs,look j s.b=some cs->gN cs=true->eS cs)->dh P (di s) c (cJ b s Q) ⟨j7 0 args,s.b,s.e,0,di s⟩):bG P f args s Q:=by
 unfold b4 at a;split at a
 ·rename_i code ae;simp only[cD,Bool.not_eq_true',e3]at a;obtain⟨⟨⟨J,U⟩,e⟩,i⟩:=a;exact bG.of hm aM h ae e J U (j1 g i) d he
 ·cases a
def wD:jv ⟨[],[]⟩:=⟨fun _=>rfl,fun _=>rfl⟩
def bF(a:List bS)(r:ah)(e:Exit)(st:bn):Prop:=
 (e= .ret\/e= .normal)/\match aX st a with
  |some (c,b)=>c/\de (aW b)=r
  |none=>eF
def acL{b:List bS}{r:ah}(g:au (fun _=>eF) r):bF b r=cJ b ⟨[],[]⟩ (fun f d=>f=r/\d=⟨[],[]⟩):=by
 funext e st;unfold bF cJ;apply propext;refine and_congr_right fun _=>?_;cases aX st b with
 |none=>exact Iff.rfl
 |some x=>
  obtain⟨c,i⟩:=x;refine and_congr_right fun _=>?_;constructor
  ·intro h;refine⟨⟨[],[]⟩,trivial,trivial,fun k cs a=>by simp[look]at a,fun k cs a=>by simp[look]at a,wD,?_,h,rfl⟩;rw[h];exact tF (fun k a=>a.elim) r g
  ·rintro⟨d,_,_,_,_,_,_,h,_⟩;exact h
def bK.mk{P:cE}(hm:P.follows .mixedOrders=true){aT:List (Nat×eJ)}(aM:hl P aT=true){f:FuncId}{fn:Func}(e:P.funcs[f]? =some fn){c:C}{a:List bS}{n:Nat}(b:b4 aT c a n fn=true)
  {args:List ah} (d:args.length<=n) {r:ah} (g:au (fun _=>eF) r) (he:eV args->dh P [] c (bF a r) ⟨j7 0 args,[],[],0,[]⟩):bK P f args r:=by
 refine bG.mk hm aM e b d wD fun J _=>?_;rw[<-acL g];exact he J
def QM{α:Type}{β:Type}:∀l:List (aB×α),bW ([]:List (aB×β)) l=l
 |[]=>rfl
 |(k,x)::r=>by simp[bW,look,QM r]
def cx.val{P:cE}{n:Nat}{args:List ah}{st:bn}{d:aZ Nat}{K:bn->Prop}{r:ah}(a:ay (fun _=>eF) args)(c:bK P n args r)(h:K {st with t:=eY d r st.t}):cx P n args st d K:=by
 refine .inl ⟨⟨[],[]⟩,_,fun k cs a=>by simp[look]at a,fun k cs a=>by simp[look]at a,wD,kH (fun _ h=>h.elim) _ a,c,?_⟩;rintro b e ⟨rfl,rfl⟩;refine⟨⟨fun m h=>by simp[look]at h,fun m h=>by simp[look]at h⟩,?_⟩;have:after st ⟨[],[]⟩ ⟨[],[]⟩ d b={st with t:=eY d b st.t}:=by simp[after,QM,di]
 rw[this];exact h
@[reducible,simp] def gu(n:Int):dv:= .c (.int .i64 n)
@[reducible,simp] def I(a b:Nat):ds:=⟨none,.s (.v a (.mov (.t b)))⟩
@[reducible,simp] def bH(a:Nat)(i:gy):ds:=⟨none,.s (.v a i)⟩
@[reducible,simp] def cU(i:ep):ds:=⟨none,.s i⟩
@[reducible,simp] def ec(a f:Nat)(l:List dv):ds:=⟨none,.call (some a) (.c (.func f [])) l⟩
@[reducible,simp] def ck(j:Nat)(w:Bool)(a b:Nat):ds:=⟨some (j,w),.s (.v a (.mov (.t b)))⟩
@[reducible,simp] def yA(j:Nat)(w:Bool)(a:Nat)(i:gy):ds:=⟨some (j,w),.s (.v a i)⟩
@[reducible,simp] def ys(j:Nat)(w:Bool)(i:ep):ds:=⟨some (j,w),.s i⟩
@[reducible,simp] def cq(d s a b:Nat):ds:=bH d (.iaddr s (.t a) (.t b))
@[reducible,simp] def aw(d s a:Nat):ds:=bH d (.load false s (.t a))
@[reducible,simp] def bh(d s a:Nat):ds:=bH d (.load true s (.t a))
@[reducible,simp] def aK(d o s a:Nat):ds:=bH d (.faddr o false s (.t a))
@[reducible,simp] def fY(d o s a:Nat):ds:=bH d (.faddr o true s (.t a))
@[reducible,simp] def bp(d:Nat)(o:BinOp)(a b:Nat):ds:=bH d (.bin o false (.t a) (.t b))
@[reducible,simp] def aS(d:Nat)(o:BinOp)(a:Nat)(n:Int):ds:=bH d (.bin o false (.t a) (gu n))
@[reducible,simp] def cd(d a:Nat):ds:=bH d (.len (.t a))
@[reducible,simp] def cH(d a:Nat):ds:=bH d (.notB (.t a))
@[reducible,simp] def dr(d i a:Nat):ds:=bH d (.ext i (.t a))
@[reducible,simp] def dy(d a b:Nat):ds:=bH d (.pick (.t a) (.c (.bool true)) (.t b))
@[reducible,simp] def ei(d a b:Nat):ds:=bH d (.pick (.t a) (.t b) (.c (.bool false)))
@[reducible,simp] def bs(d:Nat)(b:Bool):ds:=bH d (.mov (.c (.bool b)))
@[reducible,simp] def bT(d:Nat)(n:Int):ds:=bH d (.mov (gu n))
@[reducible,simp] def b1(s a b:Nat):ds:=cU (.store s (.t a) (.t b))
@[reducible,simp] def ax(j:Nat)(w:Bool)(x:ds):ds:=⟨some (j,w),x.i⟩
@[reducible,simp] def aa(l:List ds)(c:C):C:= .seq (.region l) c
@[reducible,simp] def aU(n:Nat)(a b:C):C:= .cond (.t n) a b
@[reducible,simp] def hx(d a:Nat)(l:List dv):ds:=⟨none,.call (some d) (.t a) l⟩
@[reducible,simp] def cI(d f a:Nat):ds:=ec d f [.t a]
@[reducible,simp] def ch(d f a b:Nat):ds:=ec d f [.t a,.t b]
@[reducible,simp] def eb:List ah:=[.int .i64 0,.int .i64 0,.str [],.slice 4 .nil []]
@[reducible,simp] def kI:List ah:=[.int .i64 0,.int .i64 0,.int .i64 0,.str [],.slice 4 .nil []]
@[reducible,simp] def qL:List ah:=[.int .i64 0,.slice 5 .nil [],.slice 1 .nil [],.slice 2 .nil [],.slice 2 .nil []]
@[reducible,simp] def c6(a b:Nat):ds:=cU (.box a none (.t b))
@[reducible,simp] def dV(a:Nat)(l:List ah):ds:=cU (.alloc a none (.agg l))
@[reducible,simp] def e1(a n:Nat):ds:=bH a (.mov (.c (.slice n .nil [])))
@[reducible,simp] def hv(a b c d e:Nat):ds:=cU (.app a b c (.t d) (.t e))
@[reducible,simp] def eE(a b c:Nat)(l:List dv):ds:=cU (.bsl a b c l)
@[reducible,simp] def fT(a b:Nat):ds:=bH a (.nck (.t b))
@[reducible,simp] def iy(d s a:Nat)(n:Int):ds:=bH d (.iaddr s (.t a) (gu n))
@[reducible,simp] def lJ(d:Nat)(l:List ah)(m:List (Nat×Nat×dv)):ds:=bH d (.build l m)
@[reducible,simp] def fo(a b c:Nat)(x:C):C:= .block 0 (.loop (aa [bp a .lss b c] (.seq (aU a .skip (.exit 0)) x)))
def Qe:List b7:=[0,1,2,2,3,3,3,3,4,4,4,4,4,4,4,4,5,5,5,5,5,5,5,5,5,5,5,5,5,5,5,5,6,6,6,6,6,6,6,6,6,6,6,6,6,6,6,6,6,6,6,6,6,6,6,6,6,6,6,6,6,6,6,6,7,7,7,7,7,7,7,7,7,7,7,7,7,7,7,7,7,7,7,7,7,7,7,7,7,7,7,7,7,7,7,7,7,7,7,7,7,7,7,7,7,7,7,7,7,7,7,7,7,7,7,7,7,7,7,7,7,7,7,7,7,7,7,7,8,8,8,8,8,8,8,8,8,8,8,8,8,8,8,8,8,8,8,8,8,8,8,8,8,8,8,8,8,8,8,8,8,8,8,8,8,8,8,8,8,8,8,8,8,8,8,8,8,8,8,8,8,8,8,8,8,8,8,8,8,8,8,8,8,8,8,8,8,8,8,8,8,8,8,8,8,8,8,8,8,8,8,8,8,8,8,8,8,8,8,8,8,8,8,8,8,8,8,8,8,8,8,8,8,8,8,8,8,8,8,8,8,8,8,8,8,8,8,8,8,8,8,8,8,8,8,8]
end
section
open Go Go.RowKit
def dX{α:Type}{l:List α}{i:Nat}(h:i<l.length):∃b,l[i]? =some b/\∀h,(l[i]'h)=b:=⟨l[i],cl h,fun _=>rfl⟩
def PI(st:bn)(i:ep):Prop:=match mP st i with|some (c,_)=>c|none=>eF
def PJ(st:bn)(i:ep):bn:=match mP st i with|some (_,s)=>s|none=>st
def w9(P:cE)(ob:List aB)(r:List ds)(K:bn->Prop)(st:bn):Prop:=hY P ob r st K
def AP(P:cE)(ob:List aB)(c:C)(Q:Exit->bn->Prop)(st:bn):Prop:=dh P ob c Q st
def rb(P:cE)(ob:List aB)(v:ah)(s:Nat)(w:Bool)(i:et)(r:List ds)(st:bn)(K:bn->Prop):Prop:=
 match v with
 | .bool b=>(b=w->hY P ob (⟨none,i⟩::r) {st with t:=put s (.bool w) st.t} K)/\(b= !w->hY P ob r {st with t:=eY i.dst (.tuple []) (put s (.bool !w) st.t)} K)
 | .tuple []=>hY P ob r {st with t:=eY i.dst (.tuple []) st.t} K
 |_=>eF
def vK(P:cE)(ob:List aB)(v:ah)(x:dv)(t e:C)(Q:Exit->bn->Prop)(st:bn):Prop:=
 match v with
 | .bool b=>(b=true->dh P ob t Q (tU st x true))/\(b=false->dh P ob e Q (tU st x false))
 |_=>eF
def LB(P:cE)(ob:List aB)(v:ah)(d:aZ Nat)(xs:List ah)(r:List ds)(st:bn)(K:bn->Prop):Prop:=
 match v with
 | .func n cW=>cx P n (cR (xs++cW)) st d (w9 P ob r K)
 |_=>eF
section
variable {P:cE} {ob:List aB} {st:bn} {K:bn->Prop} {r:List ds} {Q:Exit->bn->Prop} {a b c t e:C}
def afA:hY P ob [] st K=K st:=rfl
def afC{i:ep}:hY P ob (⟨none,.s i⟩::r) st K=(PI st i/\hY P ob r (PJ st i) K):=by
 simp only[hY,q9,PI,PJ];cases mP st i with
 |none=>simp
 |some x=>rfl
def afw{d:aZ Nat}{f:dv}{xs:List dv}:hY P ob (⟨none,.call d f xs⟩::r) st K=LB P ob (cg st.t f) d (xs.map (cg st.t)) r st K:=by simp only[hY,q9,LB];rfl
def LD(P:cE)(ob:List aB)(v:ah)(d:aZ Nat)(xs:List ah)(r:List ds)(st:bn)(K:bn->Prop):Prop:=
 match v with
 | .func n cW=>C8 P ob n (xs++cW) st d (w9 P ob r K)
 |_=>eF
def afB{d:aZ Nat}{f:dv}{xs:List dv}:hY P ob (⟨none,.opn d f xs⟩::r) st K=LD P ob (cg st.t f) d (xs.map (cg st.t)) r st K:=by simp only[hY,q9,LD];rfl
def afu{n:Nat}{cW xs:List ah}{d:aZ Nat}:LD P ob (.func n cW) d xs r st K=C8 P ob n (xs++cW) st d (w9 P ob r K):=rfl
def LC(P:cE)(ob:List aB)(v:ah)(d:aZ Nat)(r:List ds)(st:bn)(K:bn->Prop):Prop:=
 match v with
 | .func n cW=> ¬n<1000000/\cx P (w5 n) (cR cW) st d (w9 P ob r K)
 |_=>eF
def afx{d:aZ Nat}{f:dv}:hY P ob (⟨none,.callb d f⟩::r) st K=LC P ob (cg st.t f) d r st K:=by simp only[hY,q9,LC];rfl
def aft{n:Nat}{cW:List ah}{d:aZ Nat}:LC P ob (.func n cW) d r st K=(¬n<1000000/\cx P (w5 n) (cR cW) st d (w9 P ob r K)):=rfl
def arR(n:Nat):w5 n=n-1000000:=rfl
def afz{d:Nat}{x:dv}:hY P ob (⟨none,.next d x⟩::r) st K=uz st d (cg st.t x) (w9 P ob r K):=by simp only[hY,q9];rfl
def w8(P:cE)(ob:List aB)(c:C)(Q:Exit->bn->Prop):aZ bn->Prop
 |some st=>dh P ob c Q st
 |none=>eF
def acJ:w8 P ob c Q (some st)=dh P ob c Q st:=rfl
def ae9{s:Nat}:dh P ob (.pub s c) Q st=w8 P ob c Q (wI st s):=by simp only[dh];cases wI st s<;>rfl
def ae5{a:Bool}{s:Nat}:dh P ob (.fg a s c) Q st=dh P ob c Q {st with t:=put s (Bl a (get s st.t)) st.t}:=rfl
def ae6{a:Bool}{s:Nat}{d:C}:dh P ob (.seq (.fg a s c) d) Q st=dh P ob (.seq c d) Q {st with t:=put s (Bl a (get s st.t)) st.t}:=rfl
def ae7{a:Bool}{s:Nat}:dh P ob (.fz a s c) Q st=w8 P ob c Q (xv st a s):=by simp only[dh];cases xv st a s<;>rfl
def ae8{a:Bool}{s:Nat}{d:C}:dh P ob (.seq (.fz a s c) d) Q st=w8 P ob (.seq c d) Q (xv st a s):=by simp only[dh];cases xv st a s<;>rfl
def ae3{s:Nat}:dh P ob (.fd s c) Q st=(DP ob st s/\dh P ob c Q (Bk st s)):=rfl
def ae4{s:Nat}{d:C}:dh P ob (.seq (.fd s c) d) Q st=(DP ob st s/\dh P ob (.seq c d) Q (Bk st s)):=rfl
def afa{s:Nat}:dh P ob (.pubB s c) Q st=w8 P ob c Q (yi st s):=by simp only[dh];cases yi st s<;>rfl
def afv{n:Nat}{cW:List ah}{d:aZ Nat}{xs:List ah}:LB P ob (.func n cW) d xs r st K=cx P n (cR (xs++cW)) st d (w9 P ob r K):=rfl
def afy{s:Nat}{w:Bool}{i:et}:hY P ob (⟨some (s,w),i⟩::r) st K=rb P ob (get s st.t) s w i r st K:=by simp only[hY,rb];try rfl
def afH{s:Nat}{i:et}:rb P ob (.bool true) s true i r st K=hY P ob (⟨none,i⟩::r) {st with t:=put s (.bool true) st.t} K:=by simp[rb]
def afD{s:Nat}{i:et}:rb P ob (.bool false) s false i r st K=hY P ob (⟨none,i⟩::r) {st with t:=put s (.bool false) st.t} K:=by simp[rb]
def afG{s:Nat}{i:et}:rb P ob (.bool true) s false i r st K=hY P ob r {st with t:=eY i.dst (.tuple []) (put s (.bool true) st.t)} K:=by simp[rb]
def afE{s:Nat}{i:et}:rb P ob (.bool false) s true i r st K=hY P ob r {st with t:=eY i.dst (.tuple []) (put s (.bool false) st.t)} K:=by simp[rb]
def afF{s:Nat}{w:Bool}{i:et}:rb P ob (.tuple []) s w i r st K=hY P ob r {st with t:=eY i.dst (.tuple []) st.t} K:=by simp[rb]
def b0{x:Bool}{s:Nat}{w:Bool}{i:et}(J:x=w->hY P ob (⟨none,i⟩::r) {st with t:=put s (.bool w) st.t} K)(U:x= !w->hY P ob r {st with t:=eY i.dst (.tuple []) (put s (.bool !w) st.t)} K):rb P ob (.bool x) s w i r st K:=⟨J,U⟩
def aeS:dh P ob (.seq (.seq a b) c) Q st=dh P ob (.seq a (.seq b c)) Q st:=by simp only[dh];congr 1;funext e st';cases e<;>rfl
def aff:dh P ob (.seq .skip c) Q st=dh P ob c Q st:=rfl
def afd:dh P ob (.seq .ret c) Q st=Q .ret st:=rfl
def ae1{n:Nat}:dh P ob (.seq (.exit n) c) Q st=Q (.exit n) st:=rfl
def afg:dh P ob .skip Q st=Q .normal st:=rfl
def afe:dh P ob .ret Q st=Q .ret st:=rfl
def ae2{n:Nat}:dh P ob (.exit n) Q st=Q (.exit n) st:=rfl
def afb{gs:List ds}:dh P ob (.seq (.region gs) c) Q st=hY P ob gs st (AP P ob c Q):=rfl
def afc{gs:List ds}:dh P ob (.region gs) Q st=hY P ob gs st (Q .normal):=rfl
def aeV{x:dv}:dh P ob (.seq (.cond x t e) c) Q st=vK P ob (cg st.t x) x (.seq t c) (.seq e c) Q st:=by simp only[dh,vK];try rfl
def aeW{x:dv}:dh P ob (.cond x t e) Q st=vK P ob (cg st.t x) x t e Q st:=by simp only[dh,vK];try rfl
def afi{x:dv}:vK P ob (.bool true) x t e Q st=dh P ob t Q (tU st x true):=by simp[vK]
def afh{x:dv}:vK P ob (.bool false) x t e Q st=dh P ob e Q (tU st x false):=by simp[vK]
def bV{v:Bool}{x:dv}(J:v=true->dh P ob t Q (tU st x true))(U:v=false->dh P ob e Q (tU st x false)):vK P ob (.bool v) x t e Q st:=⟨J,U⟩
def AK(P:cE)(ob:List aB)(id:Nat)(c:C)(Q:Exit->bn->Prop)(e:Exit)(st:bn):Prop:=
 match e with
 | .normal=>dh P ob c Q st
 | .exit j=>if j=id then dh P ob c Q st else Q (.exit j) st
 |e=>Q e st
def aeT{id:Nat}:dh P ob (.seq (.block id a) c) Q st=dh P ob a (AK P ob id c Q) st:=by
 simp only[dh];congr 1;funext e st';cases e with
 |exit j=>rfl
 |_=>rfl
def aeU{id:Nat}:dh P ob (.block id a) Q st=dh P ob a (AK P ob id .skip Q) st:=by
 simp only[dh];congr 1;funext e st';cases e with
 |exit j=>simp only[AK];by_cases b:j=id<;>simp[b,dh]
 |_=>rfl
def acw{id:Nat}:AK P ob id c Q .normal st=AP P ob c Q st:=rfl
def acv{id j:Nat}:AK P ob id c Q (.exit j) st=if j=id then AP P ob c Q st else Q (.exit j) st:=rfl
def acx{id:Nat}:AK P ob id c Q .ret st=Q .ret st:=rfl
def bQ(ob:List aB)(c:Nat->bn->Prop)(k:Nat)(Q:Exit->bn->Prop)(e:Exit)(st:bn):Prop:=
 match e with
 | .normal=> ∃b a,b<k/\jE ob st a/\c b a
 |e=>Q e st
def Gr{b:Nat->bn->Prop}{k:Nat}:bQ ob b k Q .normal st= ∃c a,c<k/\jE ob st a/\b c a:=rfl
def acE{a:Nat->bn->Prop}{k n:Nat}:bQ ob a k Q (.exit n) st=Q (.exit n) st:=rfl
def acF{a:Nat->bn->Prop}{k:Nat}:bQ ob a k Q .ret st=Q .ret st:=rfl
def vJ(b:Nat->bn->Prop)(m:Nat)(c:bn)(hw:jE ob st c)(l:b m c)(h:∀k s,b k s->(∀i,eN (get i s.t))->(∀j cs,look j s.b=some cs->gN cs=true->eS cs)->dh P ob a (bQ ob b k Q) s):dh P ob (.loop a) Q st:=by
 simp only[dh];refine⟨b,m,c,hw,l,fun k s J U o=>?_⟩;have:=h k s J U o;have n:(bQ ob b k Q)=(fun e d=>match e with| .normal=> ∃g f,g<k/\jE ob d f/\b g f|e=>Q e d):=by funext e d;cases e<;>rfl
 rw[n]at this;exact this
end
/-Regions cO draw jx order. -/
def PG(n0:Nat)(st:bn)(i:ep):Prop:=match eP (o1 n0 i) st.n (o1 n0 i::st.o) st i with|some (c,_)=>c|none=>eF
def PH(n0:Nat)(st:bn)(i:ep):bn:=match eP (o1 n0 i) st.n (o1 n0 i::st.o) st i with|some (_,s)=>s|none=>st
def Kn(P:cE)(q:Bool)(nw:List Nat)(n0:Nat)(r:List ds)(K:bn->Prop)(st:bn):Prop:=iC P q nw n0 r st K
def ra(P:cE)(q:Bool)(nw:List Nat)(n0:Nat)(v:ah)(s:Nat)(w:Bool)(i:et)(r:List ds)(st:bn)(K:bn->Prop):Prop:=
 match v with
 | .bool b=>(b=w->iC P q nw n0 (⟨none,i⟩::r) {st with t:=put s (.bool w) st.t} K)/\(b= !w->iC P q nw n0 r {st with t:=eY i.dst (.tuple []) (put s (.bool !w) st.t)} K)
 | .tuple []=>iC P q nw n0 r {st with t:=eY i.dst (.tuple []) st.t} K
 |_=>eF
def LA(P:cE)(q:Bool)(nw:List Nat)(n0:Nat)(v:ah)(d:aZ Nat)(xs:List ah)(r:List ds)(st:bn)(K:bn->Prop):Prop:=
 match v with
 | .func n cW=>iY P q nw n (cR (xs++cW)) st d (Kn P q nw n0 r K)
 |_=>eF
section
variable {P:cE} {ob:List aB} {st:bn} {K:bn->Prop} {r:List ds} {Q:Exit->bn->Prop} {c:C} {q:Bool} {nw:List Nat} {n0 N:Nat}
def afm:iC P q nw n0 [] st K=K st:=rfl
def afn{i:ep}:iC P q nw n0 (⟨none,.s i⟩::r) st K=(lQ q nw n0 st i/\PG n0 st i/\iC P q nw n0 r (PH n0 st i) K):=by
 simp only[iC,jS,PG,PH];cases eP (o1 n0 i) st.n (o1 n0 i::st.o) st i with
 |none=>simp
 |some x=>rfl
def afk{d:aZ Nat}{f:dv}{xs:List dv}:iC P q nw n0 (⟨none,.call d f xs⟩::r) st K=LA P q nw n0 (cg st.t f) d (xs.map (cg st.t)) r st K:=by simp only[iC,jS,LA];rfl
def afj{n:Nat}{cW:List ah}{d:aZ Nat}{xs:List ah}:LA P q nw n0 (.func n cW) d xs r st K=iY P q nw n (cR (xs++cW)) st d (Kn P q nw n0 r K):=rfl
def afl{s:Nat}{w:Bool}{i:et}:iC P q nw n0 (⟨some (s,w),i⟩::r) st K=ra P q nw n0 (get s st.t) s w i r st K:=by simp only[iC,ra];try rfl
def afs{s:Nat}{i:et}:ra P q nw n0 (.bool true) s true i r st K=iC P q nw n0 (⟨none,i⟩::r) {st with t:=put s (.bool true) st.t} K:=by simp[ra]
def afo{s:Nat}{i:et}:ra P q nw n0 (.bool false) s false i r st K=iC P q nw n0 (⟨none,i⟩::r) {st with t:=put s (.bool false) st.t} K:=by simp[ra]
def afr{s:Nat}{i:et}:ra P q nw n0 (.bool true) s false i r st K=iC P q nw n0 r {st with t:=eY i.dst (.tuple []) (put s (.bool true) st.t)} K:=by simp[ra]
def afp{s:Nat}{i:et}:ra P q nw n0 (.bool false) s true i r st K=iC P q nw n0 r {st with t:=eY i.dst (.tuple []) (put s (.bool false) st.t)} K:=by simp[ra]
def afq{s:Nat}{w:Bool}{i:et}:ra P q nw n0 (.tuple []) s w i r st K=iC P q nw n0 r {st with t:=eY i.dst (.tuple []) st.t} K:=by simp[ra]
def bZ{x:Bool}{s:Nat}{w:Bool}{i:et}(J:x=w->iC P q nw n0 (⟨none,i⟩::r) {st with t:=put s (.bool w) st.t} K)(U:x= !w->iC P q nw n0 r {st with t:=eY i.dst (.tuple []) (put s (.bool !w) st.t)} K):ra P q nw n0 (.bool x) s w i r st K:=⟨J,U⟩
def aeX{gs:List ds}:dh P ob (.seq (.drawn q N gs) c) Q st=iC P q [] st.n gs st (vq (st.n+N) st.o (AP P ob c Q)):=rfl
def aeY{gs:List ds}:dh P ob (.drawn q N gs) Q st=iC P q [] st.n gs st (vq (st.n+N) st.o (Q .normal)):=rfl
def aeZ{gs:List ds}:dh P ob (.seq (.drawnW nw N gs) c) Q st=iC P false (rC nw st.o) st.n gs st (vq (st.n+N) ((rC nw st.o).map aB.obj++st.o) (AP P ob c Q)):=rfl
def ae0{gs:List ds}:dh P ob (.drawnW nw N gs) Q st=iC P false (rC nw st.o) st.n gs st (vq (st.n+N) ((rC nw st.o).map aB.obj++st.o) (Q .normal)):=rfl
def amF{o:List aB}:rC [] o=[]:=rfl
def amD{j:Nat}{nw:List Nat}{o:List aB}:rC (j::nw) o=if aB.obj j∈o then rC nw o else j::rC nw o:=by simp only[rC,List.filter_cons,e3,ite_not]
def iY.val{n:Nat}{args:List ah}{d:aZ Nat}{r:ah}(a:ay (fun _=>eF) args)(b:bK P n args r)(h:K {st with t:=eY d r st.t}):iY P q nw n args st d K:=by
 refine .inr ⟨⟨[],[]⟩,⟨[],[]⟩,r,none,fun k cs a=>by simp[look]at a,fun k cs a=>by simp[look]at a,wD,wD,⟨fun k h=>.inl h,fun k h=>.inl h,fun k h=>h,fun k h=>h,fun k h=>by cases h⟩,kH (fun _ h=>h.elim) _ a,b,fun _=>⟨rfl,rfl⟩,?_⟩;have:({after st ⟨[],[]⟩ ⟨[],[]⟩ d r with o:=st.o}:bn)={st with t:=eY d r st.t}:=by simp[after,QM]
 rw[this];exact h
def aJ{n:Nat}{args:List ah}{d:aZ Nat}{r:ah}(b:bK P n args r)(h:K {st with t:=eY d r st.t})(a:ay (fun _=>eF) args:=by simp):iY P q nw n args st d K:=iY.val a b h
end
section
variable {k:IntKind} {n:Int} {b:Bool} {s:List b7} {sz:Nat} {tag:AO} {xs:List ah} {key:aB} {off f:Nat} {x:ah}
@[simp]def axw:fh (.int k n)=true:=rfl
@[simp]def axj:fh (.bool b)=true:=rfl
@[simp]def axE:fh (.str s)=true:=rfl
@[simp]def axD:fh (.slice sz tag xs)=true:=rfl
@[simp]def axf:fh (.agg xs)=true:=rfl
@[simp]def axB:fh (.ptr key off)=true:=rfl
@[simp]def axs:fh (.eptr x)=true:=rfl
@[simp]def axv{t:Nat}:fh (.iface t x)=true:=rfl
@[simp]def aum{t:Nat}:cells (.iface t x)=[.iface t x]:=rfl
@[simp]def axl{a:aZ Addr}{n c:Nat}:fh (.cst (.slice a n c))=true:=rfl
@[simp]def axm{s}:fh (.cst (.string s))=true:=rfl
@[simp]def axA:fh .nilp=true:=rfl
@[simp]def axt:fh (.func f xs)=true:=rfl
@[simp]def axu:fh (.gmap key)=true:=rfl
@[simp]def axC{n:Nat}:fh (.row sz key n)=true:=rfl
@[simp]def auu{n:Nat}:cells (.row sz key n)=[.row sz key n]:=rfl
@[simp]def aun:cells (.int k n)=[.int k n]:=rfl
@[simp]def auc:cells (.bool b)=[.bool b]:=rfl
@[simp]def auw:cells (.str s)=[.str s]:=rfl
@[simp]def auv:cells (.slice sz tag xs)=[.slice sz tag xs]:=rfl
@[simp]def at6:cells (.agg xs)=xs:=rfl
@[simp]def aut:cells (.ptr key off)=[.ptr key off]:=rfl
@[simp]def auj:cells (.eptr x)=[.eptr x]:=rfl
@[simp]def aus:cells .nilp=[.nilp]:=rfl
@[simp]def auk:cells (.func f xs)=[.func f xs]:=rfl
@[simp]def aul:cells (.gmap key)=[.gmap key]:=rfl
end
section
variable {b:List (aB×List ah)} {e:List (aB×er)} {agg:Bool} {sz off:Nat} {k:aB} {p:ah} {cs xs bf:List ah} {fV:IntKind} {n i:Int} {m j:Nat} {tag:AO} {s:List b7} {Ry:Bool} {lo hi:aZ ah}
@[simp]def awt{a:Nat}{f:Nat}:nR b e agg sz (.rptr a k m j f)=Ap agg sz a m j f (look k e):=rfl
@[simp]def aws:nR b e agg sz (.ptr k off)=(match look k b with
  |some cs=>if agg then some (gN cs=true/\off+sz<=cs.length,.agg ((cs.drop off).take sz))else(cs[off]?).map fun p=>(gN cs=true,p)
  |none=>none):=rfl
@[simp]def awr:nR b e agg sz (.eptr p)=if agg then some (isAgg sz p,p)else some (fh p=true/\cells p=[p],p):=rfl
@[simp]def auV:DQ agg sz (.eptr p)=if agg then some (isAgg sz p,p)else some (fh p=true/\cells p=[p],p):=rfl
@[simp]def auN{o:Nat}:s8 off agg sz (.ptr k o)=some (True,.ptr k (o+off)):=rfl
@[simp]def auO{a f:Nat}:s8 off agg sz (.rptr a k m j f)=some (True,.rptr a k m j (f+off)):=rfl
@[simp]def auI:s8 off agg sz (.eptr (.agg cs))=if agg then some (off+sz<=cs.length,.eptr (.agg ((cs.drop off).take sz)))else(cs[off]?).map fun p=>(fh p=true/\cells p=[p],.eptr p):=rfl
@[simp]def auQ:vN off agg sz (.agg cs)=if agg then some (off+sz<=cs.length,.agg ((cs.drop off).take sz))else(cs[off]?).map fun p=>(True,p):=rfl
@[simp]def avu{a:Nat}:BX sz (.slice a tag xs) (.int fV i)=if a=sz then some (0<=i/\i<xs.length,.eptr (xs.getD i.toNat .junk))else none:=rfl
@[simp]def avt{a:Nat}:BX sz (.row a k m) (.int fV i)=if a=sz then some (0<=i/\i<m,.rptr a k m i.toNat 0)else none:=rfl
@[simp]def awq{a:Nat}:B8 (.slice a tag xs)=some (True,.int .i64 xs.length):=rfl
@[simp]def awp{a:Nat}:B8 (.row a k m)=some (True,.int .i64 m):=rfl
@[simp]def awo{a:aZ Addr}{n c:Nat}:B8 (.cst (.slice a n c))=some (True,.int .i64 n):=rfl
@[simp]def axd{s}:FW (.cst (.string s))=some (True,.int .i64 s.size):=rfl
@[simp]def axe:FW (.str s)=some (True,.int .i64 s.length):=rfl
@[simp]def auH:Bc j (.tuple bf)=(bf[j]?).map fun p=>(True,p):=rfl
@[simp]def awS:Cj (.ptr k off)=some (True,.ptr k off):=rfl
@[simp]def awQ:Cj (.eptr p)=some (True,.eptr p):=rfl
@[simp]def awR:Cj (.func j cs)=some (True,.func j cs):=rfl
@[simp]def awT:IX (.bool Ry)=some (True,.bool (!Ry)):=rfl
@[simp]def axc:JP (.str s) (.int fV i)=some (0<=i/\i<s.length,.int .u8 (s.getD i.toNat 0).toNat):=rfl
@[simp]def axF:JU (.str s) lo hi=(match ss 0 lo,ss s.length hi with
  |some l,some h=>some (0<=l/\l<=h/\h<=s.length,.str ((s.take h.toNat).drop l.toNat))
  |_,_=>none):=rfl
@[simp]def awu{a:Nat}:ID sz (.slice a tag xs) lo hi=(if a=sz then match ss 0 lo,ss xs.length hi with
  |some l,some h=>some (0<=l/\l<=h/\h<=xs.length,.slice sz .no ((xs.take h.toNat).drop l.toNat))
  |_,_=>none else none):=rfl
def Yw{f:aB->aZ (List ah)}{a:ka}{z q:ah}{ok:Bool}:pj f a z ok (.gmap k) q=(match f k with
  |some (.hdm _ _::kvs)=>if x1 a q=false then none else match x9 a q kvs with
   |some (some v)=>some (True,if ok then .tuple [v,.bool true]else v)
   |some none=>some (True,if ok then .tuple [z,.bool false]else z)
   |none=>none
  |_=>none):=rfl
def Yt{f:aB->aZ (List ah)}:qO f (.ptr k 0)=(match f k with
  |some [.hdi _ seen last,.gmap mk]=>match f mk with
   |some (.hdm clock borns::kvs)=>match seen.getLast? with
    |some n=>(nT n borns kvs).map fun p=>(clock=last,p)
    |none=>none
   |_=>none
  |_=>none):=rfl
@[simp]def aw9{b f n' el a:Nat}:Ap agg sz b m j f (some ⟨n',el,a,some xs⟩)=(if n'=m/\a=b then
   (match xs[j]? with
    |some p=>if agg then some (fh p=true/\f+sz<=(cells p).length,.agg (((cells p).drop f).take sz))else((cells p)[f]?).map fun q=>(fh p=true,q)
    |none=>none)else none):=rfl
end
attribute [simp] aeS afb aeT aeV aff afd ae1 afg afe ae2 afc aeU aeW AP acw acv acx acE acF afA afC afw afv afx aft arR afy
 afH afD afG afE afF afi afh PI PJ mP ht j7 cg get put jM rv oF oG cG ss Dm Ie JX po vD Jc IQ G7 IP
 look eY ep.dst et.dst tU w9 sW cR de au ay
 aeX aeY aeZ ae0 amF amD afm afn afk afj afl afs afo afr afp afq PG PH eP o1 lQ y4 gy.loadO vq Kn zM gN nB afz ae9 afa ae5 ae6 ae7 ae8 xv L5 uy Bl acJ wI FC yi sF nW jm IJ GG qq
def aI{P:cE}{n:Nat}{args:List ah}{st:bn}{d:aZ Nat}{K:bn->Prop}{r:ah}(b:bK P n args r)(h:K {st with t:=eY d r st.t})(a:ay (fun _=>eF) args:=by simp):cx P n args st d K:=cx.val a b h
def ak{a b:Prop}(ae:b)(c:a:=by first|omega|(unfold eR;omega)|(unfold lim;omega)):a/\b:=⟨c,ae⟩
def cA{p:Prop}(h:eF:=by first|contradiction|omega):p:=h.elim
def ca{p:Prop}(h:p:=by(try simp[*]);(repeat' first|with_reducible refine ak ?_|with_reducible refine aI v6 ?_|with_reducible refine aJ v6 ?_|simp[*]);(all_goals first|done|(simp[bF,aX,aY,aW, *];done))):p:=h
attribute [simp] afB afu ae3 ae4 Dk Ih hX h8 Dx Dw G5 A7 Bk Bj DP
end
section
open Go Go.RowKit
structure ea (s:cS):Prop where
 obj:jv s
 kb:∀k cs,look k s.b=some cs->ay (inObs s) cs
 ke:∀k o,look k s.e=some o->dD (inObs s) o
structure Same (s aj:cS):Prop where
 b:∀k,(look k s.b).isSome=(look k aj.b).isSome
 e:∀k,(look k s.e).isSome=(look k aj.e).isSome
def Same.refl(s:cS):Same s s:=⟨fun _=>rfl,fun _=>rfl⟩
def Same.inObs{s a:cS}(h:Same s a)(k:aB):inObs s k↔inObs a k:=by unfold Pv.inObs;rw[h.b,h.e]
def wA{α:Type}{k:aB}{x:α}:∀{l:List (aB×α)},(k,x)∈l->(look k l).isSome
 |(i,y)::r,h=>by
  simp only[look];split
  ·rfl
  ·rename_i a;rcases gj.1 h with h|h
   ·cases h;exact absurd rfl a
   ·exact wA h
def W6{s:cS}{k:aB}(h:k∈di s):inObs s k:=by
 unfold di at h;rcases j0.1 h with h|h
 ·obtain⟨⟨a,x⟩,J,rfl⟩:=iA.1 h;exact .inl (wA J)
 ·obtain⟨⟨a,x⟩,J,rfl⟩:=iA.1 h;exact .inr (wA J)
def kq{s:cS}(h:jv s)(m:Nat):aB.loc m∉di s:=fun hm=>by
 rcases W6 hm with J|J
 ·rw[h.1 m]at J;cases J
 ·rw[h.2 m]at J;cases J
def iM{α β:Type}(s:List (aB×β)):∀(a b:List (aB×α)),bW s (a++b)=bW s a++bW s b
 |[],b=>rfl
 |(k,x)::r,b=>by
  simp only[b3,bW];cases look k s with
  |none=>simp[iM s r b]
  |some _=>exact iM s r b
def QN{α β:Type}(s:List (aB×β)):∀(l:List (aB×α)),(∀k x,(k,x)∈l->(look k s).isSome)->bW s l=[]
 |[],_=>rfl
 |(k,x)::r,h=>by
  have J:=h k x Ψ;simp only[bW];cases a:look k s with
  |none=>rw[a]at J;cases J
  |some _=>exact QN s r fun k x b=>h k x (by simp[b])
def hn{α:Type}(s:List (aB×α)):bW s s=[]:=QN s s fun k x h=>wA h
def ku{α:Type}{k:aB}{x:α}:∀{l:List (aB×α)},look k l=none->cG k x l=l++[(k,x)]
 |[],_=>rfl
 |(i,y)::r,h=>by
  simp only[look]at h;split at h
  ·cases h
  ·rename_i a;simp[cG,a,ku h]
def cT{α:Type}(k:aB):∀(a b:List (aB×α)),look k (a++b)=match look k a with|some x=>some x|none=>look k b
 |[],b=>rfl
 |(i,y)::r,b=>by
  simp only[b3,look];split
  ·rfl
  ·exact cT k r b
def cx.ob{P:cE}{n:Nat}{args:List ah}{st:bn}{d:aZ Nat}{K:bn->Prop}{s:cS}{Q:ah->cS->Prop}(f:bG P n args s Q)(b:ea s)(ae:∀k cs,look k s.b=some cs->look k st.b=some cs)(he:∀k o,look k s.e=some o->look k st.e=some o)
  (e:ay (inObs s) args) (h:∀r a,Q r a->Same s a/\K ⟨eY d r st.t,bW s.b st.b++a.b,bW s.e st.e++a.e,st.n,st.o++di a⟩):cx P n args st d K:=by
 refine .inl ⟨s,Q,fun k cs aA=>⟨ae k cs aA,.inl (by simp[aA]),b.kb k cs aA⟩,fun k o al=>⟨he k o al,.inr (by simp[al]),b.ke k o al⟩,b.obj,e,f,fun r a c=>?_⟩;obtain⟨J,U⟩:=h r a c;exact⟨⟨fun m hm=>.inl (by rw[J.b];exact hm),fun m hm=>.inl (by rw[J.e];exact hm)⟩,U⟩
def cJ.ob{i:List bS}{s a:cS}{Q:ah->cS->Prop}{e:Exit}{st:bn}{c:Prop}{f:List ah}(n:e= .ret\/e= .normal)(p:aX st i=some (c,f))(aA:c)(g:ea a)(j:Same s a)(ae:∀k cs,look k a.b=some cs->look k st.b=some cs)(q:∀k o,look k a.e=some o->look k st.e=some o)
  (v:au (inObs a) (de (aW f))) (u:Q (de (aW f)) a):cJ i s Q e st:=by
 refine⟨n,?_⟩;rw[p];have m:∀{α:Type} (l:List (aB×α)),(∀k x,(k,x)∈l->inObs a k)->ho a l:=by
  intro α l;induction l with
  |nil=>intro _;trivial
  |cons x r t=>obtain⟨k,x⟩:=x;intro h;exact⟨h k x Ψ,t fun k x b=>h k x (by simp[b])⟩
 exact⟨aA,a,m _ fun k x b=>.inl (by rw[<-j.b];exact wA b),m _ fun k x b=>.inr (by rw[<-j.e];exact wA b),fun k cs d=>⟨ae k cs d,.inl (by simp[d]),g.kb k cs d⟩,fun k o al=>⟨q k o al,.inr (by simp[al]),g.ke k o al⟩,g.obj,v,u⟩
def bG.mono{P:cE}{f:FuncId}{args:List ah}{s:cS}{Q b:ah->cS->Prop}(h:bG P f args s Q)(g:∀r a,Q r a->b r a):bG P f args s b:=by
 intro w Z bf gl J U i;have hm:∀(e:Ending) (w':World),(∃v r a Z',e= .returned v/\Q r a/\aV w' Z' r v/\Good (fun bl=>gh Z s bl\/w.heap.size<=bl) w' Z' a.b a.e/\qx Z' a/\jv a/\ql ⟨w,Z,gh Z s,0,di s,gl,[]⟩ w' Z')->(∃v r a Z',e= .returned v/\b r a/\aV w' Z' r v/\Good (fun bl=>gh Z s bl\/w.heap.size<=bl) w' Z' a.b a.e/\qx Z' a/\jv a/\ql ⟨w,Z,gh Z s,0,di s,gl,[]⟩ w' Z'):=by rintro e w' ⟨v,r,a,Z',d,a2,a3⟩;exact⟨v,r,a,Z',d,g _ _ a2,a3⟩
 rcases h w Z bf gl J U i with⟨c,aA⟩|⟨v,w',aA,j⟩
 ·exact .inl ⟨c,aA.mono hm⟩
 ·exact .inr ⟨v,w',aA,hm _ _ j⟩
def Fj{s:cS}{k:aB}(h:inObs s k):¬fresh 0 (di s) k:=fun a=>a.2 (u7 h)
def jE.ob{s:cS}(d:ea s){st:bn}{c:List (Nat×ah)}(aM:∀x∈c,get x.1 st.t=x.2/\au (inObs s) x.2)(ae:∀k cs,look k s.b=some cs->look k st.b=some cs)(he:∀k o,look k s.e=some o->look k st.e=some o):
  jE (di s) st ⟨c,s.b,s.e,0,di s⟩:=
 ⟨fun x b=>⟨(aM x b).1,tF (fun k a=>Fj a) _ (aM x b).2⟩,fun k cs aA=>⟨ae k cs aA,Fj (.inl (by simp[aA])),kH (fun k a=>Fj a) _ (d.kb k cs aA)⟩,
  fun k o al=>⟨he k o al,Fj (.inr (by simp[al])),fun xs b=>kH (fun k a=>Fj a) _ (d.ke k o al xs b)⟩,fun m hm=>hm⟩
def cM(st:bn)(a:List bS)(R:ah->Prop):Prop:=match aX st a with
 |some (c,b)=>c/\R (de (aW b))
 |none=>eF
def cJ.at{b:List bS}{s:cS}{Q:ah->cS->Prop}{e:Exit}{st:bn}(a:cS)(d:e= .ret\/e= .normal)(i:ea a)(f:Same s a)(ae:∀k cs,look k a.b=some cs->look k st.b=some cs)(g:∀k o,look k a.e=some o->look k st.e=some o)
  (h:cM st b fun r=>au (inObs a) r/\Q r a):cJ b s Q e st:=by
 unfold cM at h;split at h
 ·rename_i c l j;exact cJ.ob d j h.1 i f ae g h.2.1 h.2.2
 ·exact h.elim
def iY.ob{P:cE}{nw:List Nat}{n:Nat}{args:List ah}{st:bn}{d:aZ Nat}{K:bn->Prop}{s b:cS}{r:ah}(l:bG P n args s fun i j=>i=r/\j=b)(f:ea s)(g:ea b)(c:Same s b)(ae:∀k cs,look k s.b=some cs->look k st.b=some cs)(he:∀k o,look k s.e=some o->look k st.e=some o)
  (a:ay (inObs s) args) (h:K ⟨eY d r st.t,bW s.b st.b++b.b,bW s.e st.e++b.e,st.n,st.o⟩):iY P false nw n args st d K:=
 .inr ⟨s,b,r,none,fun k cs aA=>⟨ae k cs aA,.inl (by simp[aA]),f.kb k cs aA⟩,fun k o al=>⟨he k o al,.inr (by simp[al]),f.ke k o al⟩,f.obj,g.obj,⟨fun k a=>.inl (by rw[c.b];exact a),fun k a=>.inl (by rw[c.e];exact a),fun k a=>by rw[<-c.b];exact a,fun k a=>by rw[<-c.e];exact a,fun k a=>by cases a⟩,a,l,(fun e=>by cases e),h⟩
def ea.of{s:cS}(al:jv s)(ae:∀x∈s.b,ay (inObs s) x.2)(he:∀x∈s.e,∀xs,x.2.xs=some xs->ay (inObs s) xs):ea s:=⟨al,fun k cs a=>ae (k,cs) (u1 a),fun k o a xs b=>he (k,o) (u1 a) xs b⟩
@[simp]def awU(b:List (aB×List ah))(e:List (aB×er)):di ⟨b,e⟩=b.map (·.1)++e.map (·.1):=rfl
def CV{α:Type}{k:aB}{p:α}:∀{a r:List (aB×α)},look k a=none->cG k p (a++r)=a++cG k p r
 |[],_,_=>rfl
 |(i,y)::a,r,h=>by
  simp only[look]at h;split at h
  ·cases h
  ·rename_i b;simp[cG,b,CV h]
def alL{α:Type}{s b:List (aB×α)}(h:∀p∈s,look p.1 b=some p.2):∀k x,look k s=some x->look k b=some x:=fun k x a=>h (k,x) (u1 a)
def dH{S:aB->Prop}{cf b:List (aB×List ah)}(h:∀p∈cf,look p.1 b=some p.2/\S p.1/\ay S p.2):hs S cf b:=fun k x a=>h (k,x) (u1 a)
def dK{S:aB->Prop}{cf b:List (aB×er)}(h:∀p∈cf,look p.1 b=some p.2/\S p.1/\dD S p.2):qc S cf b:=fun k x a=>h (k,x) (u1 a)
def aG{α:Type}{s b:List (aB×α)}(h:∀k x,look k s=some x->look k b=some x:=by first|(refine alL ?_;simp;done)|(intro k x a;first|exact a|(simp[a,hn];done)|(simp[cT,hn,a];done)|(cases k<;>simp_all[cT];done))):∀k x,look k s=some x->look k b=some x:=h
def bU{ob:List aB}{st st':bn}(J:∀x∈st'.t,get x.1 st.t=x.2/\au (fun k=> ¬fresh st'.n st'.o k) x.2:=by simp[fresh,ay,au,bX,inObs,Pv.look])(U:∀p∈st'.b,look p.1 st.b=some p.2/\(¬fresh st'.n st'.o p.1)/\ay (fun k=> ¬fresh st'.n st'.o k) p.2:=by simp[fresh,ay,au,bX,inObs,Pv.look])(a:∀p∈st'.e,look p.1 st.e=some p.2/\(¬fresh st'.n st'.o p.1)/\dD (fun k=> ¬fresh st'.n st'.o k) p.2:=by simp[fresh,ay,au,dD,inObs,Pv.look])(b:∀m∈ob,m∈st'.o:=by simp):jE ob st st':=⟨J,dH U,dK a,b⟩
def bQ.next{ob:List aB}{c:Nat->bn->Prop}{k:Nat}{Q:Exit->bn->Prop}{st:bn}(a:Nat){b:bn}(d:a<k)(hi:c a b)(hw:jE ob st b):bQ ob c k Q .normal st:=⟨a,b,d,hw,hi⟩
def lg:List (Int×ah)->List ah
 |[]=>[]
 |(k,v)::r=>.int .i64 k::v::lg r
def kL(l:List (Int×ah)):List ah:= .hdm l.length (List.range l.length)::lg l
def yJ(k:Int):List (Int×ah)->aZ ah
 |[]=>none
 |(i,v)::r=>if k=i then some v else yJ k r
def qo(k:Int)(v:ah):List (Int×ah)->aZ (List (Int×ah))
 |[]=>none
 |(i,w)::r=>if k=i then some ((k,v)::r)else match qo k v r with|some a=>some ((i,w)::a)|none=>none
def GF(k:Int)(v:ah)(l:List (Int×ah)):List (Int×ah):=match qo k v l with|some a=>a|none=>l++[(k,v)]
@[simp]def awE:[ah.hdm 0 []]=kL []:=rfl
def U9:∀a b,lg (a++b)=lg a++lg b
 |[],_=>rfl
 |(k,v)::r,b=>by simp[lg,U9 r b]
def Yu(k:Int):∀l,x9 .i (.int .i64 k) (lg l)=some (yJ k l)
 |[]=>rfl
 |(i,v)::r=>by
  simp only[lg,x9,uY,yJ];by_cases h:k=i
  ·simp[h]
  ·have:(k==i)=false:=by simp[h]
   simp[h,Yu k r,this]
def Rq{k:Int}{v:ah}:∀{l a},qo k v l=some a->a.length=l.length
 |[],_,h=>by simp[qo]at h
 |(i,w)::r,a,h=>by
  simp only[qo]at h;split at h
  ·cases h;rfl
  ·split at h
   ·rename_i c b;cases h;simp[Rq b]
   ·cases h
def YH(k:Int)(v:ah):∀l,wC .i (.int .i64 k) v (lg l)=some ((qo k v l).map lg)
 |[]=>rfl
 |(i,w)::r=>by
  simp only[lg,wC,uY,qo];by_cases h:k=i
  ·subst h;simp[lg]
  ·simp only[and_self,if_true,h,if_false,dW,YH k v r];have:(k==i)=false:=by simp[h]
   rw[this];cases qo k v r<;>simp[lg]
@[simp]def YF(k:Int)(v:ah)(l:List (Int×ah)):p5 .i (.int .i64 k) v (kL l)=some (kL (GF k v l)):=by
 simp only[kL,p5,XE,Bool.true_eq_false,reduceCtorEq,if_false,YH,GF];cases h:qo k v l with
 |some a=>simp[Rq h]
 |none=>simp[U9,lg,List.range_succ]
@[simp]def amd(f:aB->aZ (List ah))(m:aB)(l:List (Int×ah))(z:ah)(ok:Bool)(k:Int)(hm:f m=some (kL l)):pj f .i z ok (.gmap m) (.int .i64 k)=(match yJ k l with
  |some v=>some (True,if ok then .tuple [v,.bool true]else v)
  |none=>some (True,if ok then .tuple [z,.bool false]else z)):=by
 simp only[Yw,hm,kL,XE,Bool.true_eq_false,reduceCtorEq,if_false,Yu];cases yJ k l<;>rfl
def bX(n:Nat)(seen:List Nat)(m:aB):List ah:=[.hdi n seen n,.gmap m]
@[simp]def aw8(m:aB)(l:List (Int×ah)):Ag m (kL l)=some (bX l.length [] m):=rfl
@[simp]def aw3(l:List (Int×ah)):gN (kL l)=false:=rfl
def N0(b:Nat):∀(n:Nat) (l:List (Int×ah)),nT b (List.range' n l.length) (lg l)=(if n<=b then(l[b-n]?).map fun x=>.tuple [.int .i64 x.1,x.2]else none)
 |n,[]=>by simp[nT,lg]
 |n,(k,v)::r=>by
  simp only[ik,List.range'_succ,lg,nT];by_cases h:n=b
  ·subst h;simp
  ·rw[if_neg h,N0 b (n+1) r];by_cases U:n<=b
   ·rw[if_pos U,if_pos Ω];have:b-n=(b-(n+1))+1:=Ω
    rw[this];simp
   ·rw[if_neg U,if_neg Ω]
@[simp]def Ys(f:aB->aZ (List ah))(fV mk:aB)(n:Nat)(seen:List Nat)(b:Nat)(l:List (Int×ah))(hi:f fV=some (bX n (seen++[b]) mk))(hm:f mk=some (kL l))(a:n=l.length):qO f (.ptr fV 0)=(l[b]?).map fun x=>(True,.tuple [.int .i64 x.1,x.2]):=by subst a;simp only[Yt,hi,hm,bX,kL,List.getLast?_append,List.getLast?_singleton,Option.some_or,List.range_eq_range',N0,Nat.zero_le,if_true,Nat.sub_zero,Option.map_map];cases l[b]?<;>simp
def UC{st:bn}{d:Nat}{K:bn->Prop}{fV mk:aB}{n:Nat}{seen:List Nat}{l:List (Int×ah)}(hi:look fV st.b=some (bX n seen mk))(hm:look mk st.b=some (kL l))(g:n=l.length)
  (J:(∀b,b<n->b∈seen)->K {st with t:=put d (.tuple [.bool false]) st.t}) (U:∀b k v,l[b]? =some (k,v)->b∉seen->K {st with t:=put d (.tuple [.bool true,.int .i64 k,v]) st.t,b:=cG fV (bX n (seen++[b]) mk) st.b}):
  uz st d (.ptr fV 0) K:=by
 subst g;simp only[uz,hi,bX,hm,kL,Oe,and_self,true_and];refine⟨fun h=>J fun b ae=>h b (by simpa using ae),fun b k v a ae=>?_⟩;rw[List.range_eq_range',N0]at a;simp only[Nat.zero_le,if_true,Nat.sub_zero,gI,ah.tuple.injEq,pA,and_true]at a;obtain⟨⟨f,v'⟩,i,e,c⟩:=a;simp only at e c;subst e c;exact U b f v' i ae
def ao2{n:Nat}{seen:List Nat}(d:seen.Nodup)(c:∀b∈seen,b<n)(a:∀b,b<n->b∈seen):seen.Perm (List.range n):=(List.perm_ext_iff_of_nodup d List.nodup_range).2 fun b=>⟨fun h=>by simpa using c b h,fun h=>a b (by simpa using h)⟩
def JM{n:Nat}{seen:List Nat}(c:seen.Nodup)(a:∀b∈seen,b<n):seen.length<=n:=by have:=QU c (l₂:=List.range n) (fun b ae=>by simpa using a b ae);simpa using this
def PN{n b:Nat}{seen:List Nat}(d:seen.Nodup)(a:∀b∈seen,b<n)(ae:b<n)(c:b∉seen):seen.length<n:=by have J:(b::seen).Nodup:=List.nodup_cons.2 ⟨c,d⟩;have:=JM J (n:=n) (by simp;exact⟨ae,a⟩);simp at this;omega
def aah{α:Type}:∀(l pre:List α),(List.range' pre.length l.length).filterMap (fun b=>(pre++l)[b]?)=l
 |[],_=>rfl
 |x::r,pre=>by have a:=aah r (pre++[x]);simp only[ga,List.length_singleton,List.append_assoc,List.singleton_append]at a;simp[List.range'_succ,a]
def PM{α:Type}{l:List α}{seen:List Nat}(d:seen.Nodup)(c:∀b∈seen,b<l.length)(a:∀b,b<l.length->b∈seen):(seen.filterMap fun b=>l[b]?).Perm l:=by have J:=(ao2 d c a).filterMap fun b=>l[b]?;have U:=aah l [];simp only[nv,b6,<-List.range_eq_range']at U;rwa[U]at J
def Ol{b:Nat}{seen:List Nat}(f:seen.Nodup)(d:b∉seen):(seen++[b]).Nodup:=by rw[rS];exact⟨f,Ψ,by simp;intro a c e;subst e;exact d c⟩
def cZ.start{w:World}{Z:a8}(gl:n7 w Z){s:cS}{args:List ah}{bf:Array Value}(e:jv s)(a1:Good (gh Z s) w Z s.b s.e)(a:qx Z s)(r:cN w Z args bf.toList):
  cZ ⟨w,Z,gh Z s,bf.size,di s,gl,[]⟩ ⟨j7 0 args,s.b,s.e,0,di s⟩ {tmps:=bf,defers:=[]} w Z:=by
 have t:=FO r;have D:bf.size=args.length:=by simpa using t
 have l:∀k,fresh 0 (di s) k->Z.bx k=none/\Z.ow k=none/\∀j b,¬Z.tr k j b:=by
  intro k c;cases k with
  |loc m=>exact⟨(a _).1 (e.1 m),(a _).2.1 (e.2 m),(a _).2.2⟩
  |obj m=>
   simp only[fresh,true_and]at c;refine⟨?_,?_,(a _).2.2⟩
   ·refine(a _).1 ?_;cases h:look (.obj m) s.b with
    |none=>rfl
    |some x=>exact absurd (u7 (.inl (by simp[h]))) c
   ·refine(a _).2.1 ?_;cases h:look (.obj m) s.e with
    |none=>rfl
    |some x=>exact absurd (u7 (.inr (by simp[h]))) c
 have p:∀m,(Z.bx (.obj m)≠none\/Z.ow (.obj m)≠none)-> .obj m∈di s:=by
  intro m hm;refine Classical.byContradiction fun aA=>?_;obtain⟨J,U,_⟩:=l (.obj m) ⟨trivial,aA⟩;rcases hm with hm|hm
  ·exact hm J
  ·exact hm U
 refine⟨⟨a1.alt,fun k cs c=>?_,a1.inj,fun g o y=>?_,a1.oinj,a1.obx,a1.one,a1.otr⟩,⟨rfl,rfl,rfl,e2 _,fun _ _ _=>rfl,fun b o h=>⟨h,rfl⟩,fun b o h=>.inl h,fun n b h=>h,fun n b h=>p n (.inl (by rw[h];simp)),fun m n u h=>⟨n,u,h,.inl ⟨rfl,rfl⟩⟩,fun m n u h=>p m (.inr (by rw[h];simp)),fun k j _ _ b h=>absurd h ((a k).2.2 j b),fun k j b h=>absurd h ((a k).2.2 j b),fun k j b h=>absurd h ((a k).2.2 j b),fun _ _ _=>rfl,fun j n u b d _=>(by rw[(a _).2.1 (e.2 j)]at d;cases d)⟩,rfl,rfl,fun i=>?_,l,fun _ a=>(by cases a),fun m hm z=>z.2 hm⟩
 ·obtain⟨bl,us,el,g1,g2,g3⟩:=a1.box k cs c;exact⟨bl,us,el,g1,.inl g2,g3⟩
 ·obtain⟨v,us,g1,g2,g3,g4⟩:=a1.own g o y;exact⟨v,us,g1,g2,fun bl q=>⟨.inl (g3 bl q).1,(g3 bl q).2⟩,g4⟩
 ·rw[Hw];by_cases hi:i<args.length
  ·rw[if_pos Ω];have f:args[i]? =some args[i]:=cl hi;obtain⟨v,d,A⟩:=JE i r f;have B:bf[i]? =some v:=by simpa using d
   show aV w Z _ (bf.getD i undef);rw[Array.getD_eq_getD_getElem?,B];simpa[List.getD,f]using A
  ·rw[if_neg Ω];simp[aV]
def bG.sem{P:cE}{f:FuncId}{args:List ah}{s:cS}{Q:ah->cS->Prop}(D:jv s)
  (h:∀(w:World) (Z:a8) (bf:Array Value) (gl:n7 w Z),bf.size=args.length->cZ ⟨w,Z,gh Z s,bf.size,di s,gl,[]⟩ ⟨j7 0 args,s.b,s.e,0,di s⟩ {tmps:=bf,defers:=[]} w Z->
   w7 P f bf w fun e w'=> ∃v st' bu Z' r a,e= .returned v/\cZ ⟨w,Z,gh Z s,bf.size,di s,gl,[]⟩ st' bu w' Z'/\aV w' Z' r v/\ho a s.b/\ho a s.e/\hs (inObs a) a.b st'.b/\qc (inObs a) a.e st'.e/\jv a/\au (inObs a) r/\Q r a):bG P f args s Q:=by
 intro w Z bf gl a1 y z;have G:bf.size=args.length:=by simpa using FO z
 have B:=cZ.start gl D a1 y z;have hm:∀(e:Ending) (w':World),(∃v st' bu Z' r a,e= .returned v/\cZ ⟨w,Z,gh Z s,bf.size,di s,gl,[]⟩ st' bu w' Z'/\aV w' Z' r v/\ho a s.b/\ho a s.e/\hs (inObs a) a.b st'.b/\qc (inObs a) a.e st'.e/\jv a/\au (inObs a) r/\Q r a)->
   ∃v r a Z',e= .returned v/\Q r a/\aV w' Z' r v/\Good (fun bl=>gh Z s bl\/w.heap.size<=bl) w' Z' a.b a.e/\qx Z' a/\jv a/\ql ⟨w,Z,gh Z s,0,di s,gl,[]⟩ w' Z':=by
  rintro e w' ⟨v,st',bu,Z',r,a,rfl,d,F,kb,ke,o,p,N,L,K⟩;refine⟨v,r,a,Z'.cut (inObs a),rfl,K,tV (pE.cut _ w' Z') _ _ L F,d.good.cut o p (fun bl h _=>h),?_,N,?_⟩
  ·intro k;refine⟨?_,?_,?_⟩;rotate_left 2
   ·rintro j b ⟨c,ae⟩;obtain⟨t1,t2⟩:=d.fr.trn k j b ae;rcases c with c|c<;>obtain⟨x,i⟩:=gk.1 c
    ·obtain⟨bl,q,el,g,_⟩:=d.good.box k x (o k x i).1;rw[t1]at g;cases g
    ·obtain⟨v',q,g,_⟩:=d.good.own k x (p k x i).1;rw[t2]at g;cases g
   ·intro t;by_cases c:inObs a k
    ·rw[a8.cut_bx c];rcases c with c|c
     ·rw[t]at c;cases c
     ·obtain⟨x,i⟩:=gk.1 c;obtain⟨v',q,g,_⟩:=d.good.own k x (p k x i).1;rcases d.good.one k with J|J
      ·exact J
      ·rw[J]at g;cases g
    ·exact(a8.cut_no c).1
   ·intro t;by_cases c:inObs a k
    ·rw[a8.cut_ow c];rcases c with c|c
     ·obtain⟨x,i⟩:=gk.1 c;obtain⟨bl,q,el,g,_⟩:=d.good.box k x (o k x i).1;rcases d.good.one k with J|J
      ·rw[J]at g;cases g
      ·exact J
     ·rw[t]at c;cases c
    ·exact(a8.cut_no c).2.1
  ·refine⟨d.fr.os,d.fr.tape,d.fr.output,d.fr.size,d.fr.block,d.fr.keep,d.fr.fresh,fun n b h=>?_,d.fr.obn,fun m n u h=>?_,d.fr.obr,fun k j M H b J U=>d.fr.trd k j M H b J.2 U.2,fun k j b ae=>d.fr.trb k j b ae.2,fun k j b ae=>(by rw[a8.cut_bx ae.1,a8.cut_ow ae.1];exact d.fr.trn k j b ae.2),d.fr.sh,fun j n u b g O=>d.fr.nrow j n u b (a8.cut_someO g).2 O⟩
   ·have c:inObs a (.obj n):=by
     cases l:look (.obj n) s.b with
     |none=>rw[(y _).1 l]at h;cases h
     |some x=>exact B4 kb _ (by simp[l])
    rw[a8.cut_bx c];exact d.fr.obj n b h
   ·have c:inObs a (.obj m):=by
     cases l:look (.obj m) s.e with
     |none=>rw[(y _).2.1 l]at h;cases h
     |some x=>exact B4 ke _ (by simp[l])
    rw[a8.cut_ow c];exact d.fr.row m n u h
 rcases h w Z bf gl G B with⟨A,aA⟩|⟨v,w',aA,E⟩
 ·exact .inl ⟨A,aA.mono hm⟩
 ·exact .inr ⟨v,w',aA,hm _ _ E⟩
def cZ.grown{C:fb}{st:bn}{a:Act}{w w':World}{Z:a8}(h:cZ C st a w Z)(a1:w.grownBy w' none):cZ C st a w' Z:=by
 have c:l1 w Z w' Z:=⟨fun b o bj=>⟨bj,G3 a1 (h.good.alt b o bj)⟩,fun _ _ _ h=>h,fun _ n u _ h=>⟨n,u,h,.inl ⟨rfl,rfl⟩⟩,fun b o bj=>wX (a1.block b (h.good.alt b o bj) Ψ),fun _ _ _ _ h=>h⟩;refine h.over c rfl ⟨fun b o bj=>Nat.lt_of_lt_of_le (h.good.alt b o bj) a1.size,fun k cs d=>?_,h.good.inj,fun g o f=>?_,h.good.oinj,h.good.obx,h.good.one,h.good.otr⟩
  ⟨a1.os.trans h.fr.os,a1.tape.trans h.fr.tape,a1.output.trans h.fr.output,j1 h.fr.size a1.size,fun k d hm=>?_,fun b o bj=>?_,h.fr.fresh,h.fr.obj,h.fr.obn,h.fr.row,h.fr.obr,h.fr.trd,fun k j b ae=>⟨(h.fr.trb k j b ae).1,Nat.lt_of_lt_of_le (h.fr.trb k j b ae).2 a1.size⟩,h.fr.trn,fun b o bj=>(c.sh b o (h.fr.keep b o bj).1).trans (h.fr.sh b o bj),h.fr.nrow⟩ h.new
 ·obtain⟨bl,us,el,g1,g2,g3,g4,g5⟩:=h.good.box k cs d;exact⟨bl,us,el,g1,g2,g3,by rw[a1.block bl (Array.getElem?_eq_some_iff.1 g4).1 Ψ];exact g4,qT c g5⟩
 ·obtain⟨v,us,g1,g2,g3,g4⟩:=h.good.own g o f;exact⟨v,us,g1,g2.kept a1 (by cases v.ownBlock<;>simp),g3,sy c (fun _ _ _ h=>h) g4⟩
 ·rw[a1.block k (Nat.lt_of_lt_of_le d h.fr.size) Ψ];exact h.fr.block k d hm
 ·obtain⟨e,i⟩:=h.fr.keep b o bj;exact⟨e,(c.A b o e).2.trans i⟩
def cx.new{P:cE}{n:Nat}{args:List ah}{st:bn}{d:aZ Nat}{K:bn->Prop}{s:cS}{Q:ah->cS->Prop}(g:bG P n args s Q)(c:ea s)(ae:∀k cs,look k s.b=some cs->look k st.b=some cs)(he:∀k o,look k s.e=some o->look k st.e=some o)
  (f:ay (inObs s) args) (h:∀r a,Q r a->(∀m,inObs a (.obj m)->inObs s (.obj m)/\Same s a\/ .obj m∉st.o)/\K ⟨eY d r st.t,bW s.b st.b++a.b,bW s.e st.e++a.e,st.n,st.o++di a⟩):cx P n args st d K:=by
 refine .inl ⟨s,Q,fun k cs aA=>⟨ae k cs aA,.inl (by simp[aA]),c.kb k cs aA⟩,fun k o al=>⟨he k o al,.inr (by simp[al]),c.ke k o al⟩,c.obj,f,g,fun r a e=>?_⟩;obtain⟨J,U⟩:=h r a e;refine⟨⟨fun m hm=>?_,fun m hm=>?_⟩,U⟩
 ·rcases J m (.inl hm)with⟨_,b⟩|b
  ·exact .inl (by rw[b.b];exact hm)
  ·exact .inr b
 ·rcases J m (.inr hm)with⟨_,b⟩|b
  ·exact .inl (by rw[b.e];exact hm)
  ·exact .inr b
def cJ.new{f:List bS}{s:cS}{Q:ah->cS->Prop}{e:Exit}{st:bn}(a:cS)(i:e= .ret\/e= .normal)(d:ea a)(g:ho a s.b/\ho a s.e)(ae:∀k cs,look k a.b=some cs->look k st.b=some cs)(j:∀k o,look k a.e=some o->look k st.e=some o)
  (h:cM st f fun r=>au (inObs a) r/\Q r a):cJ f s Q e st:=by
 unfold cM at h;split at h
 ·rename_i c m l;refine⟨i,?_⟩;rw[l];exact⟨h.1,a,g.1,g.2,fun k cs b=>⟨ae k cs b,.inl (by simp[b]),d.kb k cs b⟩,fun k o al=>⟨j k o al,.inr (by simp[al]),d.ke k o al⟩,d.obj,h.2.1,h.2.2⟩
 ·exact h.elim
@[simp]def auE{P:cE}{ob:List aB}{c d:C}{Q:Exit->bn->Prop}{st:bn}{s:Nat}:dh P ob (.seq (.pub s c) d) Q st=w8 P ob (.seq c d) Q (wI st s):=by simp only[dh];cases wI st s<;>rfl
@[simp]def auD{P:cE}{ob:List aB}{c d:C}{Q:Exit->bn->Prop}{st:bn}{s:Nat}:dh P ob (.seq (.pubB s c) d) Q st=w8 P ob (.seq c d) Q (yi st s):=by simp only[dh];cases yi st s<;>rfl
end
section
open Go Go.RowKit
def wo(t:List (Nat×ah))(a:List Nat):List (Nat×ah):=a.map fun k=>(k,get k t)
@[simp]def avJ(t:List (Nat×ah)):wo t []=[]:=rfl
@[simp]def avI(t:List (Nat×ah))(k:Nat)(a:List Nat):wo t (k::a)=(k,get k t)::wo t a:=rfl
def qP(st:bn)(a:List Nat)(cs:List (Nat×ah)):bn:=⟨wo st.t a++cs,st.b,st.e,st.n,st.o⟩
def ams(t:List (Nat×ah))(b:List (aB×List ah))(e:List (aB×er))(n:Nat)(o:List aB)(a:List Nat)(cs:List (Nat×ah)):qP ⟨t,b,e,n,o⟩ a cs=⟨wo t a++cs,b,e,n,o⟩:=rfl
def AL{α:Type}(S:Nat->α->bn)(n:Nat)(fJ:Nat->α->Prop)(k:Nat)(st:bn):Prop:= ∃i a,i<=n/\k=n-i/\fJ i a/\st=S i a
section
variable {P:cE} {ob:List aB} {st:bn} {Q:Exit->bn->Prop} {c:C} {α:Type}
def gb(S:Nat->α->bn)(n:Nat)(fJ:Nat->α->Prop)(a0:α)(hw:jE ob st (S 0 a0))(f:fJ 0 a0)(d:∀a,fJ n a->(∀i,eN (get i (S n a).t))->dh P ob c (bQ ob (AL S n fJ) 0 Q) (S n a))
  (e:∀i a,i<n->fJ i a->(∀j,eN (get j (S i a).t))->dh P ob c (bQ ob (AL S n fJ) (n-i) Q) (S i a)):dh P ob (.loop c) Q st:=by
 refine vJ (AL S n fJ) n _ hw ⟨0,a0,Ω,Ω,f,rfl⟩ ?_;rintro k s ⟨i,a,hi,rfl,b,rfl⟩ ae _;rcases Nat.lt_or_ge i n with h|h
 ·exact e i a h b ae
 ·obtain rfl:i=n:=Ω
  rw[Nat.sub_self];exact d a b ae
def bQ.rng{S:Nat->α->bn}{n:Nat}{fJ:Nat->α->Prop}{i:Nat}(bu:α)(hi:i<n)(a:fJ (i+1) bu)(hw:jE ob st (S (i+1) bu)):bQ ob (AL S n fJ) (n-i) Q .normal st:=⟨n-(i+1),_,Ω,hw,i+1,bu,Ω,rfl,a,rfl⟩
def C5{α:Type}(S:α->bn)(μ:α->Nat)(fJ:α->Prop)(k:Nat)(st:bn):Prop:= ∃a,k=μ a/\fJ a/\st=S a
def mB(S:α->bn)(μ:α->Nat)(fJ:α->Prop)(a0:α)(hw:jE ob st (S a0))(d:fJ a0)
  (b:∀a,fJ a->(∀j,eN (get j (S a).t))->dh P ob c (bQ ob (C5 S μ fJ) (μ a) Q) (S a)):dh P ob (.loop c) Q st:=by
 refine vJ (C5 S μ fJ) (μ a0) _ hw ⟨a0,rfl,d,rfl⟩ ?_;rintro k s ⟨a,rfl,e,rfl⟩ ae _;exact b a e ae
def bQ.whl{S:α->bn}{μ:α->Nat}{fJ:α->Prop}{k:Nat}(bu:α)(hm:μ bu<k)(a:fJ bu)(hw:jE ob st (S bu)):bQ ob (C5 S μ fJ) k Q .normal st:=⟨μ bu,_,hm,hw,bu,rfl,a,rfl⟩
end
def hS{p:Prop}(h:p:=by(try simp[*]);(repeat' first|with_reducible refine ak ?_|with_reducible refine aI v6 ?_|with_reducible refine aJ v6 ?_|simp[*]);(all_goals first|exact bQ.rng () v6 (by first|assumption|trivial) bU|exact bQ.rng _ v6 v6 bU)):p:=h
end
section
open Go Go.RowKit
def nq(s:cS)(n:Nat)(k:aB):Prop:=inObs s k\/ ∃m,m<n/\k= .loc m
@[simp]def YL(s:cS)(n m:Nat)(hm:m<n):nq s n (.loc m):= .inr ⟨m,hm,rfl⟩
def Ck{s:cS}{n:Nat}{l:List ah}(h:ay (inObs s) l):ay (nq s n) l:=kH (fun _ h=>.inl h) l h
def zZ{s b:cS}(c:Same s b){n:Nat}{k:aB}(h:nq b n k):¬fresh n (di s) k:=by
 rcases h with h|⟨m,hm,rfl⟩
 ·exact fun a=>a.2 (u7 ((c.inObs k).2 h))
 ·intro a;have:=a.1;simp at this;omega
def jE.obL{s b:cS}(f:ea b)(c:Same s b){st:bn}{g:List (Nat×ah)}{L:List (aB×List ah)}{n:Nat}(aM:∀x∈g,get x.1 st.t=x.2/\au (nq b n) x.2)(h:∀x∈L,look x.1 st.b=some x.2/\nq b n x.1/\ay (nq b n) x.2)
  (ae:∀k cs,look k b.b=some cs->look k st.b=some cs) (he:∀k o,look k b.e=some o->look k st.e=some o):jE (di s) st ⟨g,L++b.b,b.e,n,di s⟩:=by
 refine⟨fun x d=>⟨(aM x d).1,tF (fun k a=>zZ c a) _ (aM x d).2⟩,fun k cs a=>?_,fun k o al=>?_,fun m hm=>hm⟩
 ·simp only at a;rw[cT]at a;cases e:look k L with
  |some x=>rw[e]at a;simp only[dz]at a;subst a;obtain⟨J,U,i⟩:=h _ (u1 e);exact⟨J,zZ c U,kH (fun k a=>zZ c a) _ i⟩
  |none=>rw[e]at a;exact⟨ae k cs a,zZ c (.inl (.inl (by simp[a]))),kH (fun k a=>zZ c (.inl a)) _ (f.kb k cs a)⟩
 ·exact⟨he k o al,zZ c (.inl (.inr (by simp at al;simp[al]))),fun xs d=>kH (fun k a=>zZ c (.inl a)) _ (f.ke k o al xs d)⟩
def hR{α:Type}(l:List α)(i j:Nat):List α:=match l[i]?,l[j]? with
 |some x,some y=>(l.set i y).set j x
 |_,_=>l
section
variable {α:Type}
@[simp]def alW(l:List α)(i j:Nat):(hR l i j).length=l.length:=by unfold hR;split<;>simp
def Ca(l:List α)(i j k:Nat)(hi:i<l.length)(a:j<l.length):(hR l i j)[k]? =if k=i then l[j]? else if k=j then l[i]? else l[k]?:=by
 unfold hR;rw[cl hi,cl a];simp only[List.getElem?_set,List.length_set];by_cases J:j=k
 ·subst J;by_cases U:j=i
  ·subst U;simp[hi]
  ·simp[U,a]
 ·by_cases U:i=k
  ·subst U;simp[J,hi]
  ·simp[J,U,lb J,lb U]
def Yf(l:List α)(i j:Nat):(hR l i j).Perm l:=by
 unfold hR;split
 ·rename_i x y b c;obtain⟨hi,rfl⟩:=fp.1 b;obtain⟨a,rfl⟩:=fp.1 c;exact List.set_set_perm hi a
 ·exact .refl _
inductive gT (a b:Nat):List α->List α->Prop
 |refl (l:List α):gT a b l l
 |step {l m:List α} {i j:Nat}:gT a b l m->a<=i->i<b->a<=j->j<b->i<m.length->j<m.length->gT a b l (hR m i j)
def gT.length{a b:Nat}{l m:List α}(h:gT a b l m):m.length=l.length:=by
 induction h with
 |refl=>rfl
 |step _ _ _ _ _ _ _ c=>rw[alW,c]
def gT.perm{a b:Nat}{l m:List α}(h:gT a b l m):m.Perm l:=by
 induction h with
 |refl=>exact .refl _
 |step _ _ _ _ _ _ _ c=>exact(Yf _ _ _).trans c
def gT.out{a b:Nat}{l m:List α}(h:gT a b l m)(k:Nat)(g:k<a\/b<=k):m[k]? =l[k]?:=by
 induction h with
 |refl=>rfl
 |step _ J U f i e c d=>rw[Ca _ _ _ _ e c,if_neg Ω,if_neg Ω];exact d
def gT.all{a b:Nat}{l m:List α}(h:gT a b l m)(p:α->Prop)(i:∀k x,a<=k->k<b->l[k]? =some x->p x):∀k x,a<=k->k<b->m[k]? =some x->p x:=by
 induction h with
 |refl=>exact i
 |step _ J U n o j g d=>
  intro k x f e c;rw[Ca _ _ _ _ j g]at c;split at c
  ·exact d _ _ n o c
  ·split at c
   ·exact d _ _ J U c
   ·exact d _ _ f e c
def gT.trans{a b:Nat}{l m r:List α}(h:gT a b l m)(e:gT a b m r):gT a b l r:=by
 induction e with
 |refl=>exact h
 |step _ J U g i f c d=>exact .step d J U g i f c
def gT.mono{a b bu cf:Nat}{l m:List α}(h:gT a b l m)(f:bu<=a)(ae:b<=cf):gT bu cf l m:=by
 induction h with
 |refl=>exact .refl _
 |step _ J U g i e c d=>exact .step d Ω Ω Ω Ω e c
def fL(lt:α->α->Bool)(a b:Nat)(l:List α):Prop:= ∀i j x y,a<=i->i<j->j<b->l[i]? =some x->l[j]? =some y->lt y x=false
structure rU (lt:α->α->Bool):Prop where
 asym:∀x y,lt x y=true->lt y x=false
 ntr:∀x y z,lt y x=false->lt z y=false->lt z x=false
def fL.pairwise{lt:α->α->Bool}{l:List α}(h:fL lt 0 l.length l):l.Pairwise fun x y=>lt y x=false:=by rw[q1];intro i j hi a b;exact h i j _ _ Ω b a (cl hi) (cl a)
def iJ(a m b k:Nat):Nat:=if k<a then k else if k<a+(b-m)then k+(m-a)else if k<b then k-(b-m)else k
def ua(a b c k:Nat):Nat:=if a<=k/\k<a+c then b+(k-a)else if b<=k/\k<b+c then a+(k-b)else k
end
def HD(i j:Nat)(h:i+j<=1099511627776):oQ.wrap (Int.fdiv (hV.wrap ((i:Int)+j)) (2 ^ (min 1 hV.bits)))=((i+j)/2:Nat):=by
 have hw:hV.wrap ((i:Int)+j)=i+j:=by simp[uk,pw,uj];omega
 have a:hV.bits=64:=rfl;rw[hw,a,show(2:Int) ^ (min 1 64)=2 from by decide,Int.fdiv_eq_ediv_of_nonneg _ Ω,lY]
 ·omega
 ·omega
end
section
open Go
inductive bO where
 |mk (kind n:Int) (name:List b7) (args:List bO)
def bO.kind:bO->Int| .mk k _ _ _=>k
def bO.num:bO->Int| .mk _ n _ _=>n
def bO.name:bO->List b7| .mk _ _ s _=>s
def bO.args:bO->List bO| .mk _ _ _ a=>a
mutual
def enc:bO->ah
 | .mk k n s a=>.agg [.int .i64 k,.int .i64 n,.str s,.slice 4 .no (qu a)]
def qu:List bO->List ah
 |[]=>[]
 |x::xs=>enc x::qu xs
end
def Hf:∀l,qu l=l.map enc
 |[]=>rfl
 |x::xs=>by simp[qu,Hf xs]
def Ba(t:bO):enc t= .agg [.int .i64 t.kind,.int .i64 t.num,.str t.name,.slice 4 .no (t.args.map enc)]:=by cases t;simp[enc,Hf,bO.kind,bO.num,bO.name,bO.args]
mutual
def XW(S:aB->Prop):∀t:bO,au S (enc t)
 | .mk k n s a=>by simp[enc,au,ay,NC S a]
def NC(S:aB->Prop):∀l:List bO,ay S (qu l)
 |[]=>by simp[qu,ay]
 |x::xs=>by simp[qu,ay,XW S x,NC S xs]
end
mutual
def aaZ:∀t:bO,de (enc t)=enc t
 | .mk k n s a=>by simp[enc,de,cR,PZ a]
def PZ:∀l:List bO,cR (qu l)=qu l
 |[]=>by simp[qu,cR]
 |x::xs=>by simp[qu,cR,aaZ x,PZ xs]
end
@[simp]def av9(S:aB->Prop)(t:bO):au S (enc t)=True:=eq_true (XW S t)
@[simp]def avT(S:aB->Prop)(l:List bO):ay S (l.map enc)=True:=by rw[<-Hf];exact eq_true (NC S l)
def arj(l:List bO):cR (l.map enc)=l.map enc:=by rw[<-Hf];exact PZ l
attribute [simp] aaZ arj
@[simp]def axr(t:bO):fh (enc t)=true:=by rw[Ba];rfl
@[simp]def aui(t:bO):cells (enc t)=[.int .i64 t.kind,.int .i64 t.num,.str t.name,.slice 4 .no (t.args.map enc)]:=by rw[Ba];rfl
@[simp]def atU(t:bO):ah.agg [.int .i64 t.kind,.int .i64 t.num,.str t.name,.slice 4 .no (t.args.map enc)]=enc t:=(Ba t).symm
@[simp]def avC(t:bO):Pv.isAgg 4 (enc t):=by rw[Ba];exact⟨_,rfl,rfl⟩
inductive T where
 |nil
 |var (n:Int)
 |sym (s:List b7)
 |num (n:Int)
 |pair (a b:T)
 deriving DecidableEq,Inhabited
def T.tm:T->bO
 | .nil=>.mk 0 0 [] []
 | .var n=>.mk 1 n [] []
 | .sym s=>.mk 2 0 s []
 | .num n=>.mk 3 n [] []
 | .pair a b=>.mk 4 0 [] [a.tm,b.tm]
def T.e:T->ah
 | .nil=>.agg [.int .i64 0,.int .i64 0,.str [],.slice 4 .no []]
 | .var n=>.agg [.int .i64 1,.int .i64 n,.str [],.slice 4 .no []]
 | .sym s=>.agg [.int .i64 2,.int .i64 0,.str s,.slice 4 .no []]
 | .num n=>.agg [.int .i64 3,.int .i64 n,.str [],.slice 4 .no []]
 | .pair a b=>.agg [.int .i64 4,.int .i64 0,.str [],.slice 4 .no [a.e,b.e]]
def vH:∀t:T,enc t.tm=t.e
 | .nil| .var _| .sym _| .num _=>rfl
 | .pair a b=>by simp[T.tm,enc,qu,T.e,vH a,vH b]
def T.kind:T->Int
 | .nil=>0| .var _=>1| .sym _=>2| .num _=>3| .pair _ _=>4
def T.int:T->Int
 | .var n=>n| .num n=>n|_=>0
def T.name:T->List b7
 | .sym s=>s|_=>[]
def T.args:T->List T
 | .pair a b=>[a,b]|_=>[]
def T.e_eq(t:T):t.e= .agg [.int .i64 t.kind,.int .i64 t.int,.str t.name,.slice 4 .no (t.args.map T.e)]:=by cases t<;>rfl
@[simp]def atT(t:T):ah.agg [.int .i64 t.kind,.int .i64 t.int,.str t.name,.slice 4 .no (t.args.map T.e)]=t.e:=(T.e_eq t).symm
@[simp]def atV:ah.agg [.int .i64 0,.int .i64 0,.str [],.slice 4 .no []]=T.nil.e:=rfl
@[simp]def atZ(n:Int):ah.agg [.int .i64 1,.int .i64 n,.str [],.slice 4 .no []]=(T.var n).e:=rfl
@[simp]def atY(s:List b7):ah.agg [.int .i64 2,.int .i64 0,.str s,.slice 4 .no []]=(T.sym s).e:=rfl
@[simp]def atW(n:Int):ah.agg [.int .i64 3,.int .i64 n,.str [],.slice 4 .no []]=(T.num n).e:=rfl
@[simp]def atX(a b:T):ah.agg [.int .i64 4,.int .i64 0,.str [],.slice 4 .no [a.e,b.e]]=(T.pair a b).e:=rfl
@[simp]def alD:(T.nil).kind=0:=rfl
@[simp]def ak3:(T.nil).int=0:=rfl
@[simp]def amv:(T.nil).name=[]:=rfl
@[simp]def ada:(T.nil).args=[]:=rfl
@[simp]def alI(n:Int):(T.var n).kind=1:=rfl
@[simp]def ak7(n:Int):(T.var n).int=n:=rfl
@[simp]def amA(n:Int):(T.var n).name=[]:=rfl
@[simp]def adg(n:Int):(T.var n).args=[]:=rfl
@[simp]def alH(s:List b7):(T.sym s).kind=2:=rfl
@[simp]def ak6(s:List b7):(T.sym s).int=0:=rfl
@[simp]def amz(s:List b7):(T.sym s).name=s:=rfl
@[simp]def adf(s:List b7):(T.sym s).args=[]:=rfl
@[simp]def alE(n:Int):(T.num n).kind=3:=rfl
@[simp]def ak4(n:Int):(T.num n).int=n:=rfl
@[simp]def amw(n:Int):(T.num n).name=[]:=rfl
@[simp]def adb(n:Int):(T.num n).args=[]:=rfl
@[simp]def alF(a b:T):(T.pair a b).kind=4:=rfl
@[simp]def ak5(a b:T):(T.pair a b).int=0:=rfl
@[simp]def amx(a b:T):(T.pair a b).name=[]:=rfl
@[simp]def ade(a b:T):(T.pair a b).args=[a,b]:=rfl
@[simp]def av8(S:aB->Prop)(t:T):au S t.e=True:=by rw[<-vH];simp
@[simp]def axQ(t:T):de t.e=t.e:=by rw[<-vH];simp
def XO(S:aB->Prop):∀l:List T,ay S (l.map T.e)
 |[]=>by simp[ay]
 |x::xs=>by simp[ay,XO S xs]
@[simp]def E0(S:aB->Prop)(l:List T):ay S (l.map T.e)=True:=eq_true (XO S l)
@[simp]def ari:∀l:List T,cR (l.map T.e)=l.map T.e
 |[]=>rfl
 |x::xs=>by simp[cR,ari xs]
@[simp]def axq(t:T):fh t.e=true:=by rw[T.e_eq];rfl
@[simp]def auh(t:T):cells t.e=[.int .i64 t.kind,.int .i64 t.int,.str t.name,.slice 4 .no (t.args.map T.e)]:=by rw[T.e_eq];rfl
@[simp]def avB(t:T):Pv.isAgg 4 t.e:=by rw[T.e_eq];exact⟨_,rfl,rfl⟩
def T.size:T->Nat
 | .pair a b=>1+a.size+b.size
 |_=>1
def T.size_pos(t:T):1<=t.size:=by cases t<;>simp[T.size]<;>omega
def low(b:b7):Bool:=decide (97<=b.toNat/\b.toNat<=122)
def nm(b:b7):Bool:=low b||decide (48<=b.toNat/\b.toNat<=57)||b.toNat==45
def jg(s:List b7):Bool:=decide (1<=s.length/\s.length<=12)&&low (s.getD 0 0)&&(s.drop 1).all nm
def T.ok:T->Bool
 | .nil=>true
 | .var n=>decide (0<=n/\n<=100000)
 | .sym s=>jg s
 | .num n=>decide (-1000000000<=n/\n<=1000000000)
 | .pair a b=>a.ok&&b.ok
def mi(k n:Int)(s:List b7):Bool:=if k=0 then n==0&&s==[]else if k=1 then decide (0<=n/\n<=100000)&&s==[]else if k=2 then n==0&&jg s else if k=3 then decide (-1000000000<=n/\n<=1000000000)&&s==[]else false
def gf:bO->Int->Int
 | .mk k n s [a,b],room=>if room<1\/k≠4\/n≠0\/s≠[]then-1 else if gf a (room-1)<0 then-1 else if gf b (room-1-gf a (room-1))<0 then-1 else 1+gf a (room-1)+gf b (room-1-gf a (room-1))
 | .mk k n s args,room=>if room<1\/k=4\/args≠[]\/mi k n s=false then-1 else 1
def Oh(k n:Int)(s:List b7)(args:List bO)(room:Int):gf (.mk k n s args) room=if room<1 then-1 else if k≠4 then(if args≠[]then-1 else if mi k n s then 1 else-1)else if n≠0\/s≠[]then-1 else match args with
  |[a,b]=>if gf a (room-1)<0 then-1 else if gf b (room-1-gf a (room-1))<0 then-1 else 1+gf a (room-1)+gf b (room-1-gf a (room-1))
  |_=> -1:=by
 match args with
 |[]=>simp only[gf];by_cases J:room<1<;>by_cases U:k=4<;>by_cases d:mi k n s=true<;>simp[J,U,d]
 |[a]=>simp[gf]
 |[a,b]=>simp only[gf];by_cases J:room<1<;>by_cases U:k=4<;>simp[J,U]
 |a::b::c::r=>simp[gf]
def IW:∀(t:T) (room:Int),gf t.tm room=if t.ok=true/\(t.size:Int)<=room then(t.size:Int)else-1
 | .nil,room=>by simp[T.tm,gf,T.ok,T.size,mi];split<;>rename_i h<;>simp_all<;>omega
 | .var n,room=>by simp[T.tm,gf,T.ok,T.size,mi];split<;>split<;>simp_all<;>omega
 | .sym s,room=>by simp[T.tm,gf,T.ok,T.size,mi];by_cases J:room<1<;>by_cases U:jg s=true<;>simp[J,U]<;>omega
 | .num n,room=>by simp[T.tm,gf,T.ok,T.size,mi];split<;>split<;>simp_all<;>omega
 | .pair a b,room=>by
  have f:=a.size_pos;have ae:=b.size_pos;simp only[T.tm,gf,IW a,IW b,T.ok,T.size,cD];by_cases J:room<1
  ·simp[J];omega
  ·by_cases U:a.ok=true/\(a.size:Int)<=room-1
   ·rw[if_pos U];by_cases c:b.ok=true/\(b.size:Int)<=room-1-a.size
    ·rw[if_pos c];simp[J,U.1,c.1];split<;>omega
    ·rw[if_neg c];simp[J,U.1];intro e;have:=c;simp[e]at this;omega
   ·rw[if_neg U];simp[J];intro d;have:=U;simp[d]at this;omega
def Fi:∀(t:bO) (room:Int),gf t room= -1\/1<=gf t room
 | .mk k n s [a,b],room=>by
  simp only[gf];split
  ·exact .inl rfl
  ·split
   ·exact .inl rfl
   ·split
    ·exact .inl rfl
    ·right;omega
 | .mk k n s [],room=>by simp only[gf];split<;>simp
 | .mk k n s [a],room=>by simp[gf]
 | .mk k n s (a::b::c::r),room=>by simp[gf]
def Oj:∀(t:bO) (room:Int),0<gf t room->∃x:T,x.tm=t
 | .mk k n s [a,b],room,h=>by
  simp only[gf]at h;split at h
  ·omega
  ·rename_i J;simp only[not_or,Int.not_lt,ne_eq,aye]at J;obtain⟨J,rfl,rfl,rfl⟩:=J;split at h
   ·omega
   ·split at h
    ·omega
    ·obtain⟨x,rfl⟩:=Oj a (room-1) (by rcases Fi a (room-1)with h|h<;>omega);obtain⟨y,rfl⟩:=Oj b (room-1-gf x.tm (room-1)) (by rcases Fi b (room-1-gf x.tm (room-1))with h|h<;>omega);exact⟨.pair x y,rfl⟩
 | .mk k n s [],room,h=>by
  simp only[gf]at h;split at h
  ·omega
  ·rename_i J;simp only[not_or,ne_eq,not_true_eq_false,not_false_eq_true,true_and,Bool.not_eq_false]at J;obtain⟨_,_,J⟩:=J;unfold mi at J;split at J
   ·rename_i e;subst e;simp at J;obtain⟨rfl,rfl⟩:=J;exact⟨.nil,rfl⟩
   ·split at J
    ·rename_i e;subst e;simp at J;obtain⟨_,rfl⟩:=J;exact⟨.var n,rfl⟩
    ·split at J
     ·rename_i e;subst e;simp at J;obtain⟨rfl,_⟩:=J;exact⟨.sym s,rfl⟩
     ·split at J
      ·rename_i e;subst e;simp at J;obtain⟨_,rfl⟩:=J;exact⟨.num n,rfl⟩
      ·cases J
 | .mk k n s [a],room,h=>by simp[gf]at h
 | .mk k n s (a::b::c::r),room,h=>by simp[gf]at h
def Oi:∀(t:bO) (room:Int),gf t room<=room\/gf t room= -1
 | .mk k n s [a,b],room=>by
  simp only[gf];split
  ·exact .inr rfl
  ·split
   ·exact .inr rfl
   ·split
    ·exact .inr rfl
    ·rcases Oi b (room-1-gf a (room-1))with h|h<;>omega
 | .mk k n s [],room=>by simp only[gf];split<;>simp;rename_i h;omega
 | .mk k n s [a],room=>by simp[gf]
 | .mk k n s (a::b::c::r),room=>by simp[gf]
mutual
def bO.sz:bO->Nat
 | .mk _ _ _ a=>1+bO.szL a
def bO.szL:List bO->Nat
 |[]=>0
 |x::xs=>x.sz+bO.szL xs
end
def szL_mem:∀{l:List bO} {x:bO},x∈l->x.sz<=bO.szL l
 |y::l,x,h=>by
  rcases gj.1 h with rfl|h
  ·simp[bO.szL]
  ·have:=szL_mem h;simp[bO.szL];omega
def Qd{t x:bO}(h:x∈t.args):x.sz<t.sz:=by cases t;simp[bO.args]at h;have:=szL_mem h;simp[bO.sz];omega
def T.fit(t:T):Bool:=t.ok&&decide (t.size<=5000)
def bO.fits(t:bO):Bool:=decide (0<gf t 5000)
def bO.fits_T(t:T):t.tm.fits=t.fit:=by
 unfold bO.fits T.fit;rw[IW];have:=t.size_pos;by_cases J:t.ok=true<;>by_cases U:t.size<=5000
 ·rw[if_pos ⟨J,Ω⟩];simp[J,U];omega
 ·rw[if_neg Ω];simp[U]
 ·rw[if_neg (by simp[J])];simp[J]
 ·rw[if_neg (by simp[J])];simp[J]
def bO.fits_ex{t:bO}(h:t.fits=true):∃x:T,x.tm=t/\x.fit=true:=by obtain⟨x,rfl⟩:=Oj t 5000 (by simpa[bO.fits]using h);exact⟨x,rfl,by rw[<-bO.fits_T];exact h⟩
structure az where
 v:Int
 t:T
 deriving DecidableEq,Inhabited
def az.e(b:az):ah:= .agg [.int .i64 b.v,.int .i64 b.t.kind,.int .i64 b.t.int,.str b.t.name,.slice 4 .no (b.t.args.map T.e)]
@[simp]def az.eta(b:az):az.mk b.v b.t=b:=rfl
@[simp]def Rb(v:Int)(t:T):ah.agg [.int .i64 v,.int .i64 t.kind,.int .i64 t.int,.str t.name,.slice 4 .no (t.args.map T.e)]=(az.mk v t).e:=rfl
@[simp]def atN(v:Int):ah.agg [.int .i64 v,.int .i64 0,.int .i64 0,.str [],.slice 4 .no []]=(az.mk v .nil).e:=rfl
@[simp]def atS(v n:Int):ah.agg [.int .i64 v,.int .i64 1,.int .i64 n,.str [],.slice 4 .no []]=(az.mk v (.var n)).e:=rfl
@[simp]def atQ(v:Int)(s:List b7):ah.agg [.int .i64 v,.int .i64 2,.int .i64 0,.str s,.slice 4 .no []]=(az.mk v (.sym s)).e:=rfl
@[simp]def atO(v n:Int):ah.agg [.int .i64 v,.int .i64 3,.int .i64 n,.str [],.slice 4 .no []]=(az.mk v (.num n)).e:=rfl
@[simp]def atP(v:Int)(a b:T):ah.agg [.int .i64 v,.int .i64 4,.int .i64 0,.str [],.slice 4 .no [a.e,b.e]]=(az.mk v (.pair a b)).e:=rfl
@[simp]def av1(S:aB->Prop)(b:az):au S b.e=True:=by simp[az.e,-Rb]
@[simp]def axJ(b:az):de b.e=b.e:=by simp[az.e,-Rb]
def XL(S:aB->Prop):∀l:List az,ay S (l.map az.e)
 |[]=>by simp[ay]
 |x::xs=>by simp[ay,XL S xs]
@[simp]def avP(S:aB->Prop)(l:List az):ay S (l.map az.e)=True:=eq_true (XL S l)
@[simp]def aaY:∀l:List az,cR (l.map az.e)=l.map az.e
 |[]=>rfl
 |x::xs=>by simp[cR,aaY xs]
@[simp]def axh(b:az):fh b.e=true:=rfl
@[simp]def aua(b:az):cells b.e=[.int .i64 b.v,.int .i64 b.t.kind,.int .i64 b.t.int,.str b.t.name,.slice 4 .no (b.t.args.map T.e)]:=rfl
@[simp]def avy(b:az):Pv.isAgg 5 b.e:=⟨_,rfl,rfl⟩
@[simp]def auR(off:Nat)(a:Bool)(sz:Nat)(b:az):vN off a sz b.e=if a then some (off+sz<=5,.agg (([.int .i64 b.v,.int .i64 b.t.kind,.int .i64 b.t.int,.str b.t.name,.slice 4 .no (b.t.args.map T.e)].drop off).take sz))else(([.int .i64 b.v,.int .i64 b.t.kind,.int .i64 b.t.int,.str b.t.name,.slice 4 .no (b.t.args.map T.e)]:List ah)[off]?).map fun p=>(True,p):=rfl
@[simp]def auJ(off:Nat)(a:Bool)(sz:Nat)(b:az):s8 off a sz (.eptr b.e)=if a then some (off+sz<=5,.eptr (.agg (([.int .i64 b.v,.int .i64 b.t.kind,.int .i64 b.t.int,.str b.t.name,.slice 4 .no (b.t.args.map T.e)].drop off).take sz)))else(([.int .i64 b.v,.int .i64 b.t.kind,.int .i64 b.t.int,.str b.t.name,.slice 4 .no (b.t.args.map T.e)]:List ah)[off]?).map fun p=>(fh p=true/\cells p=[p],.eptr p):=rfl
def T.occ(v:Int):T->Bool
 | .var n=>n==v
 | .pair a b=>a.occ v||b.occ v
 |_=>false
def e6(a b:Int):Int:=if a<b then-1 else if b<a then 1 else 0
def lE(a b:List b7):Int:=if a=b then 0 else if h5 a b then-1 else 1
def e0:T->T->Int
 | .pair a b,.pair c d=>if e0 a c=0 then e0 b d else e0 a c
 |x,y=>if x.kind≠y.kind then e6 x.kind y.kind else if x.int≠y.int then e6 x.int y.int else lE x.name y.name
structure dm where
 v:Int
 t:bO
def dm.e(b:dm):ah:= .agg [.int .i64 b.v,.int .i64 b.t.kind,.int .i64 b.t.num,.str b.t.name,.slice 4 .no (b.t.args.map enc)]
def az.b(b:az):dm:=⟨b.v,b.t.tm⟩
def az.b_e(b:az):b.b.e=b.e:=by obtain⟨v,t⟩:=b;cases t<;>simp only[az.b,dm.e,az.e,T.tm,bO.kind,bO.num,bO.name,bO.args,vH,alD,alI,alH,alE,alF,ak3,ak7,ak6,ak4,ak5,amv,amA,amz,amw,amx,ada,adg,adf,adb,ade,fG,nx]
@[simp]def dm.eta(b:dm):dm.mk b.v b.t=b:=rfl
@[simp]def Rc(v:Int)(t:bO):ah.agg [.int .i64 v,.int .i64 t.kind,.int .i64 t.num,.str t.name,.slice 4 .no (t.args.map enc)]=(dm.mk v t).e:=rfl
@[simp]def av3(S:aB->Prop)(b:dm):au S b.e=True:=by simp[dm.e,-Rc]
@[simp]def axL(b:dm):de b.e=b.e:=by simp[dm.e,-Rc]
def XN(S:aB->Prop):∀l:List dm,ay S (l.map dm.e)
 |[]=>by simp[ay]
 |x::xs=>by simp[ay,XN S xs]
@[simp]def avR(S:aB->Prop)(l:List dm):ay S (l.map dm.e)=True:=eq_true (XN S l)
@[simp]def arh:∀l:List dm,cR (l.map dm.e)=l.map dm.e
 |[]=>rfl
 |x::xs=>by simp[cR,arh xs]
@[simp]def axk(b:dm):fh b.e=true:=rfl
@[simp]def aud(b:dm):cells b.e=[.int .i64 b.v,.int .i64 b.t.kind,.int .i64 b.t.num,.str b.t.name,.slice 4 .no (b.t.args.map enc)]:=rfl
@[simp]def avA(b:dm):Pv.isAgg 5 b.e:=⟨_,rfl,rfl⟩
@[simp]def auS(off:Nat)(a:Bool)(sz:Nat)(b:dm):vN off a sz b.e=if a then some (off+sz<=5,.agg (([.int .i64 b.v,.int .i64 b.t.kind,.int .i64 b.t.num,.str b.t.name,.slice 4 .no (b.t.args.map enc)].drop off).take sz))else(([.int .i64 b.v,.int .i64 b.t.kind,.int .i64 b.t.num,.str b.t.name,.slice 4 .no (b.t.args.map enc)]:List ah)[off]?).map fun p=>(True,p):=rfl
@[simp]def auK(off:Nat)(a:Bool)(sz:Nat)(b:dm):s8 off a sz (.eptr b.e)=if a then some (off+sz<=5,.eptr (.agg (([.int .i64 b.v,.int .i64 b.t.kind,.int .i64 b.t.num,.str b.t.name,.slice 4 .no (b.t.args.map enc)].drop off).take sz)))else(([.int .i64 b.v,.int .i64 b.t.kind,.int .i64 b.t.num,.str b.t.name,.slice 4 .no (b.t.args.map enc)]:List ah)[off]?).map fun p=>(fh p=true/\cells p=[p],.eptr p):=rfl
def Cn(l:List dm)(i:Nat):Prop:= ∀b,l[i]? =some b->(0<=b.v/\b.v<=100000)/\(∀c,0<i->l[i-1]? =some c->c.v<b.v)/\b.t.fits=true
def AQ(l:List dm):Prop:=l.length<=400/\∀i,i<l.length->Cn l i
def su:∀a b:T,e0 a b=0↔a=b
 | .pair a b,.pair c d=>by
  simp only[e0,T.pair.injEq];split
  ·rename_i h;rw[su b d,<-su a c];simp[h]
  ·rename_i h;simp[h,<-su a c]
 | .nil,y=>by cases y<;>simp[e0,e6,lE]
 | .var n,y=>by cases y<;>simp[e0,e6,lE]<;>omega
 | .sym s,y=>by cases y<;>simp[e0,e6,lE];rename_i e;by_cases h:s=e<;>simp[h];by_cases U:h5 s e=true<;>simp[U]
 | .num n,y=>by cases y<;>simp[e0,e6,lE]<;>omega
 | .pair a b,.nil| .pair a b,.var _| .pair a b,.sym _| .pair a b,.num _=>by simp[e0,e6]
def T.sub(f:Int->aZ T):T->T
 | .var n=>match f n with|some x=>x|none=>.var n
 | .pair a b=>.pair (a.sub f) (b.sub f)
 |t=>t
def mo(f:Int->Int):T->Int
 | .var n=>if 5001<f n then 5001 else f n
 | .pair a b=>if 5000<mo f a then mo f a else if 5001<1+mo f a+mo f b then 5001 else 1+mo f a+mo f b
 |_=>1
def JQ(f:Int->Int)(c:∀v,-1<=f v):∀t,-1<=mo f t/\mo f t<=5001
 | .var n=>by have:=c n;simp only[mo];split<;>omega
 | .pair a b=>by have:=JQ f c a;have:=JQ f c b;simp only[mo];split<;>(try split)<;>omega
 | .nil| .sym _| .num _=>by simp[mo]
def dC(l:List az)(v:Int):aZ T:=(l.find? fun b=>b.v==v).map (·.t)
end
section
open Go
structure j9 {α:Type} (c:α->α->Int):Prop where
 neg:∀a b,c b a= -c a b
 tr:∀a b d,c a b<=0->c b d<=0->c a d<=0
 zero:∀a b,c a b=0↔a=b
section
variable {α:Type} {c:α->α->Int}
def ix(c:α->α->Int)(a b:α):Bool:=decide (c a b<0)
def j9.ltOk(h:j9 c):rU (ix c):=by
 refine⟨fun x y a=>?_,fun x y z J U=>?_⟩
 ·simp only[ix,e3,hb]at a⊢;rw[h.neg x y];omega
 ·simp only[ix,hb]at J U⊢;have d:=h.neg x y;have e:=h.neg y z;have b:=h.neg x z;have:=h.tr x y z Ω Ω;omega
def j9.refl(h:j9 c)(a:α):c a a=0:=(h.zero a a).2 rfl
def j9.ltr(h:j9 c){a b d:α}(J:c a b<0)(U:c b d<=0):c a d<0:=by
 have f:=h.tr a b d Ω U;rcases(by omega:c a d<0\/c a d=0)with e|e
 ·exact e
 ·obtain rfl:=(h.zero a d).1 e;have:=h.neg a b;omega
def qb(c:α->α->Int)(l:List α):List α:=l.mergeSort fun x y=>decide (c x y<=0)
def Ay(c:α->α->Int)(l:List α):(qb c l).Perm l:=List.mergeSort_perm l _
def PU(h:j9 c)(l:List α):(qb c l).Pairwise fun x y=>c x y<=0:=by have:=List.pairwise_mergeSort (le:=fun x y=>decide (c x y<=0)) (fun a b d J U=>by simp at J U⊢;exact h.tr a b d J U) (fun a b=>by simp;have:=h.neg a b;omega) l;exact this.imp Ψ
def aaU(h:j9 c){l a:List α}(d:a.Perm l)(e:a.Pairwise fun x y=>ix c y x=false):a=qb c l:=by refine QV (le:=fun x y=>c x y<=0) (fun x y _ _ J U=>(h.zero x y).1 (by have:=h.neg x y;omega)) (e.imp fun{x y} b=>?_) (PU h l) (d.trans (Ay c l).symm);simp only[ix,hb]at b;have:=h.neg x y;omega
def cX[DecidableEq α](p:aZ α):List α->List α
 |[]=>[]
 |x::r=>if p=some x then cX (some x) r else x::cX (some x) r
def asc[DecidableEq α](c:α->α->Int)(l:List α):List α:=cX none (qb c l)
def iB(c:α->α->Int)(l:List α):Prop:=l.Pairwise fun x y=>c x y<0
variable [DecidableEq α]
def Lo:∀(l:List α) (p:aZ α) (x:α),x∈cX p l->x∈l
 |[],_,_,h=>by simp[cX]at h
 |y::r,p,x,h=>by
  simp only[cX]at h;split at h
  ·exact pB _ (Lo r _ x h)
  ·rcases gj.1 h with rfl|h
   ·simp
   ·exact pB _ (Lo r _ x h)
def N2:∀(l:List α) (p:aZ α) (x:α),x∈l->x∈cX p l\/p=some x
 |y::r,p,x,h=>by
  simp only[cX];rcases gj.1 h with rfl|h
  ·split
   ·rename_i U;exact .inr U
   ·simp
  ·split
   ·rename_i U;rcases N2 r (some y) x h with a|a
    ·exact .inl a
    ·cases a;exact .inr U
   ·rcases N2 r (some y) x h with a|a
    ·exact .inl (pB _ a)
    ·cases a;simp
def Uk(aA:j9 c):∀(l:List α) (p:aZ α),l.Pairwise (fun x y=>c x y<=0)->(∀y,p=some y->∀x∈l,c y x<=0)->iB c (cX p l)/\∀y,p=some y->∀x∈cX p l,c y x<0
 |[],p,_,_=>⟨ayo,fun y _ x a=>by simp[cX]at a⟩
 |z::r,p,h,i=>by
  obtain⟨J,U⟩:=n4.1 h;have b:=Uk aA r (some z) U (fun y f x a=>by cases f;exact J x a);simp only[cX];split
  ·rename_i e;subst e;exact b
  ·rename_i e;refine⟨n4.2 ⟨fun x a=>b.2 z rfl x a,b.1⟩,fun y f x a=>?_⟩;subst f;have g:c y z<0:=by
    have j:=i y rfl z Ψ;rcases(by omega:c y z<0\/c y z=0)with d|d
    ·exact d
    ·exact absurd (eG some ((aA.zero y z).1 d)) e
   rcases gj.1 a with rfl|a
   ·exact g
   ·exact aA.ltr g (by have:=b.2 z rfl x a;omega)
def KJ(aA:j9 c)(l:List α):iB c (asc c l):=(Uk aA _ none (PU aA l) (fun y h=>by cases h)).1
def Yq(l:List α)(x:α):x∈asc c l↔x∈l:=by
 constructor
 ·intro h;exact(Ay c l).mem_iff.1 (Lo _ _ _ h)
 ·intro h;rcases N2 (qb c l) none x ((Ay c l).mem_iff.2 h)with h|h
  ·exact h
  ·cases h
omit [DecidableEq α]in
def iB.ext(aA:j9 c){l d:List α}(h:iB c l)(f:iB c d)(hm:∀x,x∈l↔x∈d):l=d:=by
 have g:∀{l:List α},iB c l->l.Nodup:=fun{l} h=>h.imp fun{a b} h e=>by subst e;have:=aA.refl a;omega
 refine QV (le:=fun x y=>c x y<=0) (fun x y _ _ J U=>(aA.zero x y).1 (by have:=aA.neg x y;omega)) (h.imp fun h=>Ω) (f.imp fun h=>Ω) ?_;exact(List.perm_ext_iff_of_nodup (g h) (g f)).2 hm
omit [DecidableEq α]in
def iB.nodup(aA:j9 c){l:List α}(h:iB c l):l.Nodup:=h.imp fun{a b} h e=>by subst e;have:=aA.refl a;omega
end
def KO:∀a b:List b7,h5 a b=true->h5 b a=false
 |_,[],h=>by simp[h5]at h
 |[],_::_,_=>by simp[h5]
 |x::a,y::b,h=>by
  simp only[h5,mR,e3,cD,dW]at h;simp only[h5,Bool.or_eq_false_iff,hb,Bool.and_eq_false_iff];rcases h with h|⟨rfl,h⟩
  ·refine⟨fun U=>?_,.inl ?_⟩
   ·rw[UInt8.lt_iff_toNat_lt]at h U;omega
   ·simp;intro e;subst e;rw[UInt8.lt_iff_toNat_lt]at h;omega
  ·exact⟨fun U=>by rw[UInt8.lt_iff_toNat_lt]at U;omega,.inr (KO a b h)⟩
def Rx:∀a b:List b7,a≠b->h5 a b=false->h5 b a=true
 |[],[],h,_=>absurd rfl h
 |x::a,[],_,_=>by simp[h5]
 |[],_::_,_,h=>by simp[h5]at h
 |x::a,y::b,c,h=>by
  simp only[h5,Bool.or_eq_false_iff,hb,Bool.and_eq_false_iff]at h;simp only[h5,mR,e3,cD,dW];by_cases e:x=y
  ·subst e;right;refine⟨rfl,Rx a b (fun e=>c (by rw[e])) ?_⟩;rcases h.2 with U|U
   ·simp at U
   ·exact U
  ·left;have J:=h.1;rw[UInt8.lt_iff_toNat_lt]at J⊢;have:x.toNat≠y.toNat:=fun h=>e (UInt8.toNat_inj.1 h);omega
def Rw:∀a b d:List b7,h5 a b=true->h5 b d=true->h5 a d=true
 |_,[],_,h,_=>by simp[h5]at h
 |_,_::_,[],_,h=>by simp[h5]at h
 |[],_::_,_::_,_,_=>by simp[h5]
 |x::a,y::b,z::d,J,U=>by
  simp only[h5,mR,e3,cD,dW,UInt8.lt_iff_toNat_lt]at J U⊢;rcases J with J|⟨rfl,J⟩<;>rcases U with U|⟨rfl,U⟩
  ·left;omega
  ·left;exact J
  ·left;exact U
  ·exact .inr ⟨rfl,Rw a b d J U⟩
def k8:j9 e6:=by
 refine⟨fun a b=>?_,fun a b d=>?_,fun a b=>?_⟩
 ·simp only[e6];repeat' split
  all_goals omega
 ·simp only[e6];repeat' split
  all_goals omega
 ·simp only[e6];repeat' split
  all_goals omega
def Fv:j9 lE:=by
 have g:∀a b,lE b a= -lE a b:=fun a b=>by
  simp only[lE];by_cases e:a=b
  ·subst e;simp
  ·rw[if_neg e,if_neg (lb e)];cases h:h5 a b with
   |true=>simp[KO a b h]
   |false=>simp[Rx a b e h]
 refine⟨g,fun a b d J U=>?_,fun a b=>?_⟩
 ·simp only[lE]at J U⊢;by_cases c:a=b
  ·subst c;exact U
  ·by_cases f:b=d
   ·subst f;exact J
   ·rw[if_neg c]at J;rw[if_neg f]at U;have g1:h5 a b=true:=by cases h:h5 a b<;>simp[h]at J⊢
    have g2:h5 b d=true:=by cases h:h5 b d<;>simp[h]at U⊢
    rw[Rw a b d g1 g2];split<;>simp
 ·simp only[lE];by_cases e:a=b
  ·simp[e]
  ·rw[if_neg e];simp[e];split<;>omega
def tP{a b:T}(h:a.kind≠b.kind):e0 a b=e6 a.kind b.kind:=by cases a<;>cases b<;>simp at h<;>simp[e0]
def I5:∀a b:T,e0 b a= -e0 a b
 | .pair a b,.pair c d=>by
  simp only[e0];have J:=I5 a c;have U:=I5 b d;by_cases e:e0 a c=0
  ·rw[if_pos e,if_pos Ω,U]
  ·rw[if_neg e,if_neg Ω,J]
 | .nil,y=>by
  by_cases f:T.nil.kind=y.kind
  ·cases y<;>simp at f;simp[e0,lE]
  ·rw[tP f,tP (lb f),k8.neg]
 | .var n,y=>by
  by_cases f:(T.var n).kind=y.kind
  ·cases y<;>simp at f;rename_i m;by_cases e:n=m
   ·subst e;simp[e0,lE]
   ·simp[e0,e,lb e,k8.neg n m]
  ·rw[tP f,tP (lb f),k8.neg]
 | .sym s,y=>by
  by_cases f:(T.sym s).kind=y.kind
  ·cases y<;>simp at f;rename_i m;simp[e0,Fv.neg s m]
  ·rw[tP f,tP (lb f),k8.neg]
 | .num n,y=>by
  by_cases f:(T.num n).kind=y.kind
  ·cases y<;>simp at f;rename_i m;by_cases e:n=m
   ·subst e;simp[e0,lE]
   ·simp[e0,e,lb e,k8.neg n m]
  ·rw[tP f,tP (lb f),k8.neg]
 | .pair a b,.nil| .pair a b,.var _| .pair a b,.sym _| .pair a b,.num _=>by simp[e0,e6]
def I4{a b:T}(h:e0 a b<=0):a.kind<=b.kind:=by
 by_cases c:a.kind=b.kind
 ·omega
 ·rw[tP c]at h;simp only[e6]at h;repeat' split at h
  all_goals omega
def Zj(n m:Int):e0 (.var n) (.var m)=e6 n m:=by
 simp only[e0,T.kind,T.int,T.name,lE];by_cases e:n=m
 ·subst e;simp[e6]
 ·simp[e]
def Zi(n m:Int):e0 (.num n) (.num m)=e6 n m:=by
 simp only[e0,T.kind,T.int,T.name,lE];by_cases e:n=m
 ·subst e;simp[e6]
 ·simp[e]
def aoU(n m:List b7):e0 (.sym n) (.sym m)=lE n m:=by simp[e0]
def I6(a b d:T)(g:a.kind≠4)(J:e0 a b<=0)(U:e0 b d<=0):e0 a d<=0:=by
 have e:=I4 J;have f:=I4 U;by_cases c:a.kind=d.kind
 ·cases a<;>cases d<;>simp at c g;all_goals(cases b<;>simp at e f)
  ·simp[e0,lE]
  ·rw[Zj]at J U⊢;exact k8.tr _ _ _ J U
  ·rw[aoU]at J U⊢;exact Fv.tr _ _ _ J U
  ·rw[Zi]at J U⊢;exact k8.tr _ _ _ J U
 ·rw[tP c];simp only[e6];repeat' split
  all_goals omega
def aoV:∀a b d:T,e0 a b<=0->e0 b d<=0->e0 a d<=0:=by
 intro a;induction a with
 |pair e a2 o m=>
  intro b d J U;have i:=I4 J;have j:=I4 U;cases b<;>simp at i;all_goals(cases d<;>simp at j)
  rename_i c k d1 d2;simp only[e0]at J U⊢;by_cases g:e0 e c=0
  ·obtain rfl:=(su e c).1 g;rw[if_pos g]at J;by_cases f:e0 e d1=0
   ·rw[if_pos f]at U⊢;exact m k d2 J U
   ·rw[if_neg f]at U⊢;exact U
  ·rw[if_neg g]at J;by_cases f:e0 c d1=0
   ·obtain rfl:=(su c d1).1 f;rw[if_neg g];exact J
   ·rw[if_neg f]at U;have l:=o c d1 J U;by_cases h:e0 e d1=0
    ·obtain rfl:=(su e d1).1 h;have:=I5 e c;omega
    ·rw[if_neg h];exact l
 |nil=>exact fun b d=>I6 _ b d Ψ
 |var n=>exact fun b d=>I6 _ b d Ψ
 |sym n=>exact fun b d=>I6 _ b d Ψ
 |num n=>exact fun b d=>I6 _ b d Ψ
def OK:j9 e0:=⟨I5,aoV,su⟩
end
section
open Go
section
variable {α:Type} {c:α->α->Int}
def kJ(c:α->α->Int):List α->List α->Int
 |[],[]=>0
 |[],_::_=> -1
 |_::_,[]=>1
 |x::xs,y::ys=>if c x y=0 then kJ c xs ys else c x y
def X8(h:j9 c):∀a b:List α,kJ c b a= -kJ c a b
 |[],[]=>rfl
 |[],_::_=>rfl
 |_::_,[]=>rfl
 |x::xs,y::ys=>by
  simp only[kJ];have J:=h.neg x y;by_cases e:c x y=0
  ·rw[if_pos e,if_pos Ω,X8 h xs ys]
  ·rw[if_neg e,if_neg Ω,J]
def Ya(h:j9 c):∀a b:List α,kJ c a b=0↔a=b
 |[],[]=>by simp[kJ]
 |[],_::_=>by simp[kJ]
 |_::_,[]=>by simp[kJ]
 |x::xs,y::ys=>by
  simp only[kJ,pA];by_cases e:c x y=0
  ·rw[if_pos e,Ya h xs ys];simp[(h.zero x y).1 e]
  ·rw[if_neg e];exact⟨fun d=>absurd d e,fun d=>absurd ((h.zero x y).2 d.1) e⟩
def X9(h:j9 c):∀a b d:List α,kJ c a b<=0->kJ c b d<=0->kJ c a d<=0
 |[],_,[],_,_=>by simp[kJ]
 |[],_,_::_,_,_=>by simp[kJ]
 |_::_,[],_,J,_=>by simp[kJ]at J
 |_::_,_::_,[],_,U=>by simp[kJ]at U
 |x::xs,y::ys,z::cU,J,U=>by
  simp only[kJ]at J U⊢;by_cases f:c x y=0
  ·have:=(h.zero x y).1 f;subst this;rw[if_pos f]at J;by_cases e:c x z=0
   ·rw[if_pos e]at U⊢;exact X9 h xs ys cU J U
   ·rw[if_neg e]at U⊢;exact U
  ·rw[if_neg f]at J;have g:c x y<0:=Ω
   by_cases e:c y z=0
   ·have:=(h.zero y z).1 e;subst this;rw[if_neg f];omega
   ·rw[if_neg e]at U;have:=h.ltr g U;rw[if_neg Ω];omega
def alQ(h:j9 c):j9 (kJ c):=⟨X8 h,X9 h,Ya h⟩
end
def Ab(x y:az):Int:=if e6 x.v y.v=0 then e0 x.t y.t else e6 x.v y.v
def aoS:j9 Ab:=by
 refine⟨fun x y=>?_,fun x y z J U=>?_,fun x y=>?_⟩
 ·unfold Ab;have:=k8.neg x.v y.v;have:=OK.neg x.t y.t;by_cases e:e6 x.v y.v=0
  ·rw[if_pos e,if_pos Ω];omega
  ·rw[if_neg e,if_neg Ω];omega
 ·unfold Ab at J U⊢;by_cases b:e6 x.v y.v=0
  ·rw[if_pos b]at J;rw[(k8.zero _ _).1 b];by_cases a:e6 y.v z.v=0
   ·rw[if_pos a]at U⊢;exact OK.tr _ _ _ J U
   ·rw[if_neg a]at U⊢;exact U
  ·rw[if_neg b]at J;have c:e6 x.v y.v<0:=Ω
   by_cases a:e6 y.v z.v=0
   ·rw[<-(k8.zero _ _).1 a,if_neg b];exact J
   ·rw[if_neg a]at U;have:=k8.ltr c U;rw[if_neg Ω];omega
 ·unfold Ab;by_cases e:e6 x.v y.v=0
  ·rw[if_pos e,OK.zero];have:=(k8.zero _ _).1 e;cases x;cases y;simp_all
  ·rw[if_neg e];exact⟨fun h=>absurd h e,fun h=>by rw[h]at e;exact absurd (k8.refl _) e⟩
def e5:List az->List az->Int:=kJ Ab
def mM:j9 e5:=alQ aoS
end
section
open Go
def T.ap(c:Int->T):T->T
 | .var n=>c n
 | .pair a b=>.pair (a.ap c) (b.ap c)
 |t=>t
def Dj(f g:Int->T)(t:T):(t.ap f).ap g=t.ap fun v=>(f v).ap g:=by
 induction t with
 |pair a b d c=>simp[T.ap,d,c]
 |_=>simp[T.ap]
def vA{f g:Int->T}{t:T}(h:∀v,t.occ v=true->f v=g v):t.ap f=t.ap g:=by
 induction t with
 |var n=>exact h n (by simp[T.occ])
 |pair a b e d=>simp only[T.ap];rw[e fun v c=>h v (by simp[T.occ,c]),d fun v c=>h v (by simp[T.occ,c])]
 |_=>rfl
def ac7(t:T):t.ap .var=t:=by induction t<;>simp_all[T.ap]
def Rk{f:Int->T}{t:T}(h:∀v,t.occ v=true->f v= .var v):t.ap f=t:=(vA h).trans (ac7 t)
def aa2(f:Int->aZ T)(t:T):t.sub f=t.ap fun v=>(f v).getD (.var v):=by
 induction t with
 |var n=>simp only[T.sub,T.ap];cases f n<;>rfl
 |pair a b d c=>simp[T.sub,T.ap,d,c]
 |_=>rfl
def ac6(c:Int->T)(t:T):t.size<=(t.ap c).size:=by
 induction t with
 |var n=>exact T.size_pos _
 |pair a b e d=>simp only[T.ap,T.size];omega
 |_=>exact e2 _
def Cm(c:Int->T){v:Int}{t:T}(h:t.occ v=true):(c v).size<=(t.ap c).size/\(t.kind≠1->(c v).size<(t.ap c).size):=by
 induction t with
 |var n=>simp[T.occ]at h;subst h;simp[T.ap,T.kind]
 |pair a b e d=>
  simp only[T.occ,mR]at h;simp only[T.ap,T.size];rcases h with h|h
  ·have:=(e h).1;exact⟨Ω,fun _=>Ω⟩
  ·have:=(d h).1;exact⟨Ω,fun _=>Ω⟩
 |_=>simp[T.occ]at h
def Fl{c:Int->T}{v:Int}{t:T}:(t.ap c).occ v=true↔∃w,t.occ w=true/\(c w).occ v=true:=by
 induction t with
 |var n=>simp[T.ap,T.occ]
 |pair a b e d=>
  simp only[T.ap,T.occ,mR,e,d];constructor
  ·rintro(⟨w,J,U⟩|⟨w,J,U⟩)
   ·exact⟨w,.inl J,U⟩
   ·exact⟨w,.inr J,U⟩
  ·rintro⟨w,J|J,U⟩
   ·exact .inl ⟨w,J,U⟩
   ·exact .inr ⟨w,J,U⟩
 |_=>simp[T.ap,T.occ]
def cQ(s:List az)(v:Int):T:=(dC s v).getD (.var v)
abbrev iX(s:List az):Prop:=s.Pairwise fun x y=>x.v<y.v
def hE(s:List az)(a:Int->T):Prop:= ∀b∈s,a b.v=b.t.ap a
structure gm (s:List az):Prop where
 asc:iX s
 free:∀b∈s,∀w,b.t.occ w=true->dC s w=none
 ori:∀b∈s,∀w,b.t= .var w->w<b.v
def vC(b:az)(s:List az)(v:Int):dC (b::s) v=if b.v=v then some b.t else dC s v:=by
 unfold dC;by_cases h:b.v=v
 ·simp[h]
 ·have:(b.v==v)=false:=by simp[h]
  simp[this,h,List.find?_cons]
def kX{v:Int}{t:T}:∀{s:List az},dC s v=some t->(⟨v,t⟩:az)∈s
 |[],h=>by simp[dC]at h
 |b::s,h=>by
  rw[vC]at h;split at h
  ·rename_i e;cases h;subst e;simp
  ·exact pB _ (kX h)
def xi{v:Int}:∀{s:List az},dC s v=none↔∀b∈s,b.v≠v
 |[]=>by simp[dC]
 |b::s=>by
  rw[vC];by_cases h:b.v=v
  ·simp[h]
  ·simp[h,xi (s:=s)]
def xh{b:az}:∀{s:List az},iX s->b∈s->dC s b.v=some b.t
 |[],_,h=>by simp at h
 |c::s,d,h=>by
  rw[vC];have a:=n4.1 d;rcases gj.1 h with rfl|h
  ·simp
  ·have:=a.1 b h;rw[if_neg Ω];exact xh a.2 h
def Rn:∀{s a:List az},iX s->iX a->(∀v,dC s v=dC a v)->s=a
 |[],[],_,_,_=>rfl
 |[],c::a,_,_,h=>by have:=h c.v;rw[vC]at this;simp[dC]at this
 |c::s,[],_,_,h=>by have:=h c.v;rw[vC]at this;simp[dC]at this
 |b::s,c::a,l,ae,h=>by
  have f:=n4.1 ae;have d:=n4.1 l;have J:(⟨b.v,b.t⟩:az)∈c::a:=kX (by rw[<-h b.v,vC];simp);have U:(⟨c.v,c.t⟩:az)∈b::s:=kX (by rw[h c.v,vC];simp);have n:b=c:=by
   rcases gj.1 J with e|e
   ·exact e
   ·rcases gj.1 U with i|i
    ·exact i.symm
    ·have k:=f.1 _ e;have m:=d.1 _ i;simp only at k m;omega
  subst n;rw[Rn d.2 f.2 fun v=>?_];have:=h v;rw[vC,vC]at this;by_cases e:b.v=v
  ·have j:dC s v=none:=xi.2 fun x g=>by have:=d.1 x g;omega
   have z2:dC a v=none:=xi.2 fun x g=>by have:=f.1 x g;omega
   rw[j,z2]
  ·simpa[e]using this
def aq5{s:List az}(c:iX s){a:Int->T}:hE s a↔∀v,a v=(cQ s v).ap a:=by
 constructor
 ·intro h v;unfold cQ;cases e:dC s v with
  |none=>rfl
  |some t=>exact h _ (kX e)
 ·intro h b ae;have:=h b.v;rw[cQ,xh c ae]at this;exact this
def PS{s:List az}{a:Int->T}(h:hE s a)(t:T):t.ap a=(t.ap (cQ s)).ap a:=by
 rw[Dj];refine vA fun v _=>?_;unfold cQ;cases e:dC s v with
 |none=>rfl
 |some t=>exact h _ (kX e)
def aqM{s:List az}(b:gm s){t:T}(h:∀w,t.occ w=true->dC s w=none):t.ap (cQ s)=t:=Rk fun v a=>by simp[cQ,h v a]
def Ax{s:List az}(a:gm s):hE s (cQ s):=fun b ae=>by rw[aqM a (a.free b ae),cQ,xh a.asc ae];rfl
def Ob{s a:List az}(f:gm s)(c:gm a)(h:∀d,hE a d->hE s d){v:Int}(g:dC a v=none):dC s v=none:=by
 cases e:dC s v with
 |none=>rfl
 |some t=>
  have J:=h _ (Ax c) _ (kX e);simp only[cQ,g,oU]at J;cases t with
  |var w=>
   have U:w<v:=f.ori _ (kX e) w rfl;simp only[T.ap,cQ]at J;cases b:dC a w with
   |none=>rw[b]at J;simp at J;omega
   |some u=>rw[b]at J;simp only[mv]at J;subst J;have:=c.ori _ (kX b) v rfl;simp only at this;omega
  |_=>simp[T.ap]at J
def amu{s a:List az}(c:gm a)(h:∀b,hE a b->hE s b){v:Int}:(cQ s v).size<=(cQ a v).size:=by
 have J:=h _ (Ax c);unfold cQ;cases e:dC s v with
 |none=>exact T.size_pos _
 |some t=>have:=J _ (kX e);show t.size<=(cQ a v).size;simp only at this;rw[this];exact ac6 _ _
def aq8{s b:List az}(d:gm s)(c:gm b)(h:∀a,hE s a↔hE b a):s=b:=by
 refine Rn d.asc c.asc fun v=>?_;have d1:∀w,dC s w=none↔dC b w=none:=fun w=>⟨Ob c d (fun a=>(h a).1),Ob d c fun a=>(h a).2⟩;cases e:dC s v with
 |none=>exact((d1 v).1 e).symm
 |some t=>
  cases f:dC b v with
  |none=>rw[(d1 v).2 f]at e;cases e
  |some g=>have J:=(h _).2 (Ax c) _ (kX e);simp only[cQ,f,mv]at J;rw[J];exact eG some (Rk fun w hw=>by have:=(d1 w).1 (d.free _ (kX e) w hw);simp[cQ,this]).symm
def h7(s:List az):Prop:=s.length<=400/\∀b∈s,b.t.size<=5000
def adj{s:List az}(h:iX s):(s.map (·.v)).Nodup:=by rw[List.nodup_iff_pairwise_ne,List.pairwise_map];exact h.imp fun h=>Ω
def U5{s a:List az}(d:gm s)(f:gm a)(h:∀i,hE a i->hE s i)(k:h7 a):h7 s:=by
 have j:∀x∈s.map (·.v),x∈a.map (·.v):=by
  intro x l;obtain⟨b,ae,rfl⟩:=iA.1 l;cases e:dC a b.v with
  |none=>have:=Ob d f h e;rw[xh d.asc ae]at this;cases this
  |some t=>exact iA.2 ⟨_,kX e,rfl⟩
 have g:=QU (adj d.asc) j;simp only[iz]at g;refine⟨j1 g k.1,fun b ae=>?_⟩;have J:=amu (s:=s) f h (v:=b.v);rw[cQ,xh d.asc ae]at J;obtain⟨c,aA,e⟩:=iA.1 (j b.v (iA.2 ⟨b,ae,rfl⟩));have U:=k.2 c aA;rw[cQ,<-e,xh f.asc aA]at J;exact j1 J U
def kd(E:List (T×T))(a:Int->T):Prop:= ∀e∈E,e.1.ap a=e.2.ap a
def FZ(a:Int->T):kd [] a:=fun _ h=>by simp at h
def sC{e:T×T}{E:List (T×T)}{a:Int->T}:kd (e::E) a↔e.1.ap a=e.2.ap a/\kd E a:=by simp[kd]
def FY{E b:List (T×T)}{a:Int->T}:kd (E++b) a↔kd E a/\kd b a:=by simp only[kd,j0];exact⟨fun h=>⟨fun e he=>h e (.inl he),fun e he=>h e (.inr he)⟩,fun h e he=>he.elim (h.1 e) (h.2 e)⟩
def jD(s:List az)(E:List (T×T)):aZ (List az)->Prop
 |some a=>(gm a/\h7 a)/\∀b,hE a b↔hE s b/\kd E b
 |none=> ∀a,gm a->(∀b,hE a b->hE s b/\kd E b)->¬h7 a
def acV{s:List az}{E:List (T×T)}:∀{o o':aZ (List az)},jD s E o->jD s E o'->o=o'
 |none,none,_,_=>rfl
 |some s1,none,h,a=>absurd h.1.2 (a s1 h.1.1 fun b=>(h.2 b).1)
 |none,some s1,a,h=>absurd h.1.2 (a s1 h.1.1 fun b=>(h.2 b).1)
 |some s1,some s2,h,a=>by rw[aq8 h.1.1 a.1.1 fun b=>(h.2 b).trans (a.2 b).symm]
def Dg{s s2:List az}{E c:List (T×T)}(h:∀a,(hE s a/\kd E a)↔(hE s2 a/\kd c a)):∀{o:aZ (List az)},jD s E o->jD s2 c o
 |none,b=>fun e J U=>b e J fun a d=>(h a).2 (U a d)
 |some s1,b=>⟨b.1,fun a=>(b.2 a).trans (h a)⟩
def Q7{s s1:List az}{E d:List (T×T)}(h:jD s E (some s1)):∀{o:aZ (List az)},jD s1 d o->jD s (E++d) o
 |none,b=>fun e J U=>b e J fun a c=>⟨(h.2 a).2 ⟨(U a c).1,(FY.1 (U a c).2).1⟩,(FY.1 (U a c).2).2⟩
 |some s2,b=>⟨b.1,fun a=>by rw[b.2 a,h.2 a,FY,and_assoc]⟩
def Kz{s:List az}{E:List (T×T)}(c:List (T×T))(h:jD s E none):jD s (E++c) none:=fun d J U=>h d J fun b a=>⟨(U b a).1,(FY.1 (U b a).2).1⟩
def GB{s:List az}{E:List (T×T)}(h:∀a,hE s a->¬kd E a):jD s E none:=fun b J U=>absurd (U _ (Ax J)).2 (h _ (U _ (Ax J)).1)
def KA{s:List az}(a:gm s)(c:h7 s):jD s [] (some s):=⟨⟨a,c⟩,fun b=>⟨fun h=>⟨h,FZ b⟩,fun h=>h.1⟩⟩
def one(v:Int)(x:T)(w:Int):T:=if w=v then x else .var w
def p2(b:az):List az->List az
 |[]=>[b]
 |c::s=>if b.v<c.v then b::c::s else c::p2 b s
def nD(s:List az)(v:Int)(x:T):List az:=p2 ⟨v,x⟩ (s.map fun b=>⟨b.v,b.t.ap (one v x)⟩)
def N3{b x:az}:∀{s:List az},x∈p2 b s↔x=b\/x∈s
 |[]=>by simp[p2]
 |c::s=>by
  simp only[p2];split
  ·simp
  ·simp only[gj,N3 (s:=s)];constructor
   ·rintro(h|h|h)
    ·exact .inr (.inl h)
    ·exact .inl h
    ·exact .inr (.inr h)
   ·rintro(h|h|h)
    ·exact .inr (.inl h)
    ·exact .inl h
    ·exact .inr (.inr h)
def X7{b:az}:∀{s:List az},(p2 b s).length=s.length+1
 |[]=>rfl
 |c::s=>by simp only[p2];split<;>simp[X7]
def Ro{b:az}:∀{s:List az},iX s->(∀c∈s,c.v≠b.v)->iX (p2 b s)
 |[],_,_=>by simp[p2]
 |c::s,e,f=>by
  have d:=n4.1 e;simp only[p2];split
  ·rename_i g;refine n4.2 ⟨fun x a=>?_,e⟩;rcases gj.1 a with rfl|a
   ·exact g
   ·have:=d.1 x a;omega
  ·rename_i h;refine n4.2 ⟨fun x a=>?_,Ro d.2 fun c aA=>f c (by simp[aA])⟩;rcases N3.1 a with rfl|a
   ·have:=f c Ψ;omega
   ·exact d.1 x a
def rz{s:List az}{v:Int}{x:T}{b:az}:b∈nD s v x↔b=⟨v,x⟩\/ ∃c∈s,b=⟨c.v,c.t.ap (one v x)⟩:=by unfold nD;rw[N3,iA];refine or_congr Iff.rfl ⟨fun⟨c,J,U⟩=>⟨c,J,U.symm⟩,fun⟨c,J,U⟩=>⟨c,J,U.symm⟩⟩
def Ze{v:Int}{x:T}{a:Int->T}(h:a v=x.ap a)(t:T):(t.ap (one v x)).ap a=t.ap a:=by
 rw[Dj];refine vA fun w _=>?_;unfold one;split
 ·rename_i e;subst e;exact h.symm
 ·rfl
def GH{s:List az}{v w:Int}{x:T}:dC (nD s v x) w=none↔w≠v/\dC s w=none:=by
 rw[xi,xi];constructor
 ·intro h;exact⟨fun e=>h ⟨v,x⟩ (rz.2 (.inl rfl)) e.symm,fun b ae=>h ⟨b.v,b.t.ap (one v x)⟩ (rz.2 (.inr ⟨b,ae,rfl⟩))⟩
 ·rintro⟨J,U⟩ b ae;rcases rz.1 ae with rfl|⟨c,aA,rfl⟩
  ·exact fun e=>J e.symm
  ·exact U c aA
def PQ{s:List az}(a:gm s){t:T}{w:Int}(h:(t.ap (cQ s)).occ w=true):dC s w=none:=by
 obtain⟨u,_,U⟩:=Fl.1 h;unfold cQ at U;cases e:dC s u with
 |none=>rw[e]at U;simp[T.occ]at U;subst U;exact e
 |some t=>rw[e]at U;exact a.free _ (kX e) w U
def aq7{s:List az}(a:gm s){v:Int}{t:T}(h:dC s v=none)(al:(t.ap (cQ s)).occ v=false)(d:∀w,t.ap (cQ s)= .var w->w<v):gm (nD s v (t.ap (cQ s))):=by
 have f:∀w,(t.ap (cQ s)).occ w=true->dC (nD s v (t.ap (cQ s))) w=none:=fun w hw=>GH.2 ⟨fun e=>(by subst e;rw[al]at hw;cases hw),PQ a hw⟩;refine⟨Ro ?_ ?_,fun b ae w hw=>?_,fun b ae w hw=>?_⟩
 ·rw[iX,List.pairwise_map];exact a.asc
 ·intro c aA;obtain⟨b,ae,rfl⟩:=iA.1 aA;exact xi.1 h b ae
 ·rcases rz.1 ae with rfl|⟨c,aA,rfl⟩
  ·exact f w hw
  ·obtain⟨u,J,U⟩:=Fl.1 hw;unfold one at U;split at U
   ·exact f w U
   ·rename_i g;simp[T.occ]at U;subst U;exact GH.2 ⟨g,a.free c aA _ J⟩
 ·rcases rz.1 ae with rfl|⟨c,aA,rfl⟩
  ·exact d w hw
  ·simp only at hw⊢;cases e:c.t with
   |var u=>
    have:=a.ori c aA u e;rw[e]at hw;simp only[T.ap,one]at hw;split at hw
    ·rename_i i;subst i;have:=d w hw;omega
    ·cases hw;exact this
   |_=>rw[e]at hw;simp[T.ap]at hw
def aaP{s:List az}{v:Int}{t:T}(a:Int->T):hE (nD s v (t.ap (cQ s))) a↔hE s a/\kd [(.var v,t)] a:=by
 have e:kd [(.var v,t)] a↔a v=t.ap a:=by simp[kd,T.ap]
 rw[e];constructor
 ·intro h;have d:a v=(t.ap (cQ s)).ap a:=h _ (rz.2 (.inl rfl));have J:hE s a:=fun b ae=>by have:=h _ (rz.2 (.inr ⟨b,ae,rfl⟩));simp only at this;rw[Ze d]at this;exact this
  exact⟨J,by rw[PS J t];exact d⟩
 ·rintro⟨J,U⟩ b ae;have d:a v=(t.ap (cQ s)).ap a:=by rw[<-PS J t];exact U
  rcases rz.1 ae with rfl|⟨c,aA,rfl⟩
  ·exact d
  ·simp only;rw[Ze d];exact J c aA
open Classical in
def acS{s:List az}(f:gm s){v:Int}{t:T}(g:dC s v=none)(al:(t.ap (cQ s)).occ v=false)(c:∀w,t.ap (cQ s)= .var w->w<v):jD s [(.var v,t)] (if h7 (nD s v (t.ap (cQ s)))then some (nD s v (t.ap (cQ s)))else none):=by
 have J:=aq7 f g al c;split
 ·rename_i a;exact⟨⟨J,a⟩,aaP⟩
 ·rename_i a;exact fun i U e h=>a (U5 J U (fun b d=>(aaP b).2 (e b d)) h)
def hU(s:List az):T->T
 | .var n=>cQ s n
 |t=>t
def oZ(s:List az)(v:Int)(t:T):aZ (List az):=if(t.ap (cQ s)).size<=5000/\(t.ap (cQ s)).occ v=false/\s.length<400/\∀b∈s,(b.t.ap (one v (t.ap (cQ s)))).size<=5000 then some (nD s v (t.ap (cQ s)))else none
def kP(rec:List az->T->T->aZ (aZ (List az)))(s:List az):T->T->aZ (aZ (List az))
 | .var i,.var j=>some (if i<j then oZ s j (.var i)else if i=j then some s else oZ s i (.var j))
 | .var i,y=>some (oZ s i y)
 |x,.var j=>some (oZ s j x)
 | .pair b a2,.pair a c=>match rec s b a with
  |none=>none
  |some none=>some none
  |some (some s1)=>rec s1 a2 c
 |x,y=>some (if x=y then some s else none)
def lG:Nat->List az->T->T->aZ (aZ (List az))
 |0,_,_,_=>none
 |n+1,s,a,b=>kP (lG n) s (hU s a) (hU s b)
def arT{rec c:List az->T->T->aZ (aZ (List az))}(h:∀s a b o,rec s a b=some o->c s a b=some o){s:List az}{x y:T}{o:aZ (List az)}(he:kP rec s x y=some o):kP c s x y=some o:=by
 cases x<;>cases y<;>simp only[kP]at he⊢ <;>try exact he
 rename_i g a2 f i;cases e:rec s g f with
 |none=>rw[e]at he;cases he
 |some d=>
  rw[e]at he;rw[h _ _ _ _ e];cases d with
  |none=>exact he
  |some s1=>exact h _ _ _ _ he
def F7:∀{n m:Nat} {s:List az} {a b:T} {o:aZ (List az)},n<=m->lG n s a b=some o->lG m s a b=some o
 |0,_,_,_,_,_,_,h=>by simp[lG]at h
 |n+1,0,_,_,_,_,hm,_=>Ω
 |n+1,m+1,s,a,b,o,hm,h=>by simp only[lG]at h⊢;exact arT (fun s a b o h=>F7 Ω h) h
def LY{s:List az}{v:Int}{x:T}:h7 (nD s v x)↔(x.size<=5000/\s.length<400/\∀b∈s,(b.t.ap (one v x)).size<=5000):=by
 have d:(nD s v x).length=s.length+1:=by simp[nD,X7]
 unfold h7;rw[d];constructor
 ·rintro⟨J,U⟩;exact⟨U _ (rz.2 (.inl rfl)),Ω,fun b ae=>U _ (rz.2 (.inr ⟨b,ae,rfl⟩))⟩
 ·rintro⟨J,U,a⟩;refine⟨Ω,fun b ae=>?_⟩;rcases rz.1 ae with rfl|⟨c,aA,rfl⟩
  ·exact J
  ·exact a c aA
def acT{s:List az}(g:gm s){v:Int}{t:T}(j:dC s v=none)(f:t.ap (cQ s)≠ .var v)(d:∀w,t.ap (cQ s)= .var w->w<v):jD s [(.var v,t)] (oZ s v t):=by
 unfold oZ;cases al:(t.ap (cQ s)).occ v with
 |true=>
  rw[if_neg Ψ];refine GB fun i J U=>?_;have c:=(sC.1 U).1;simp only[T.ap]at c;rw[PS J t]at c;have b:(t.ap (cQ s)).kind≠1:=by
   intro b;cases e:t.ap (cQ s)with
   |var w=>rw[e]at al;simp[T.occ]at al;subst al;exact f e
   |_=>rw[e]at b;simp[T.kind]at b
  have:=(Cm i al).2 b;rw[<-c]at this;omega
 |false=>
  have J:=acS g j al d;by_cases a:h7 (nD s v (t.ap (cQ s)))
  ·rw[if_pos a]at J;rw[if_pos ⟨(LY.1 a).1,rfl,(LY.1 a).2⟩];exact J
  ·rw[if_neg a]at J;rw[if_neg fun h=>a (LY.2 ⟨h.1,h.2.2⟩)];exact J
def ab8{s:List az}(a:gm s){t:T}{i:Int}(h:hU s t= .var i):dC s i=none:=by
 cases t with
 |var n=>
  simp only[hU,cQ]at h;cases e:dC s n with
  |none=>rw[e]at h;simp at h;subst h;exact e
  |some u=>rw[e]at h;simp at h;subst h;exact a.free _ (kX e) i (by simp[T.occ])
 |_=>simp[hU]at h
def QK{s:List az}{a:Int->T}(h:hE s a)(t:T):(hU s t).ap a=t.ap a:=by
 cases t with
 |var n=>
  simp only[hU,T.ap,cQ];cases e:dC s n with
  |none=>rfl
  |some u=>exact(h _ (kX e)).symm
 |_=>rfl
def aca{s:List az}(a:gm s)(t:T):(hU s t).ap (cQ s)=t.ap (cQ s):=QK (Ax a) t
def rp(V:List Int)(t:T):Prop:= ∀w,t.occ w=true->w∈V
def zK(V:List Int)(s:List az):Prop:= ∀b∈s,b.v∈V/\rp V b.t
def A8(V:List Int)(s:List az):Nat:=(V.filter fun v=>(dC s v).isNone).length
def U4{α:Type}{p q:α->Bool}{v:α}:∀{V:List α},(∀x∈V,q x=true->p x=true)->v∈V->p v=true->q v=false->(V.filter q).length<(V.filter p).length
 |[],_,h,_,_=>by simp at h
 |x::V,h,b,d,f=>by
  have hle:∀W:List α,(∀x∈W,q x=true->p x=true)->(W.filter q).length<=(W.filter p).length:=by
   intro W;induction W with
   |nil=>intro _;simp
   |cons y W g=>intro c;have:=g fun x a=>c x (by simp[a]);have j:=c y Ψ;simp only[List.filter_cons];cases e:q y<;>cases i:p y<;>simp_all<;>omega
  simp only[List.filter_cons];rcases gj.1 b with rfl|b
  ·have:=hle V fun x a=>h x (by simp[a]);simp[d,f];omega
  ·have:=U4 (fun x a=>h x (pB _ a)) b d f;have a:=h x Ψ;cases e:q x<;>cases i:p x<;>simp_all<;>omega
def aet{V:List Int}{s:List az}{v:Int}{x:T}(b:v∈V)(a:dC s v=none):A8 V (nD s v x)<A8 V s:=by
 unfold A8;refine U4 (v:=v) (fun w _ h=>?_) b (by simp[a]) ?_
 ·rw[Option.isNone_iff_eq_none,GH]at h;simp[h.2]
 ·cases e:dC (nD s v x) v with
  |none=>exact absurd rfl (GH.1 e).1
  |some _=>rfl
def W7{V:List Int}{s:List az}(h:zK V s){t:T}(aM:rp V t):rp V (t.ap (cQ s)):=fun w hw=>by
 obtain⟨u,J,U⟩:=Fl.1 hw;unfold cQ at U;cases e:dC s u with
 |none=>rw[e]at U;simp[T.occ]at U;subst U;exact aM _ J
 |some x=>rw[e]at U;exact(h _ (kX e)).2 w U
def ak1{V:List Int}{s:List az}(h:zK V s){v:Int}{x:T}(d:v∈V)(a:rp V x):zK V (nD s v x):=fun b ae=>by
 rcases rz.1 ae with rfl|⟨c,aA,rfl⟩
 ·exact⟨d,a⟩
 ·refine⟨(h c aA).1,fun w hw=>?_⟩;obtain⟨u,J,U⟩:=Fl.1 hw;unfold one at U;split at U
  ·exact a w U
  ·simp[T.occ]at U;subst U;exact(h c aA).2 _ J
def W8{V:List Int}{s:List az}(h:zK V s){t:T}(aM:rp V t):rp V (hU s t):=by
 cases t with
 |var n=>have:=W7 h aM;simpa[hU,T.ap]using this
 |_=>exact aM
def Df(V:List Int)(s:List az)(a b:T)(o:aZ (List az)):Prop:=jD s [(a,b)] o/\∀c,o=some c->zK V c/\(c=s\/A8 V c<A8 V s)
def F9{V:List Int}{s:List az}(j:gm s)(d:zK V s){v:Int}{t a b:T}(f:v∈V)(aM:rp V t)(e:dC s v=none)(i:t.ap (cQ s)≠ .var v)(g:∀w,t.ap (cQ s)= .var w->w<v)(aA:∀c,hE s c->(c v=t.ap c↔a.ap c=b.ap c)):Df V s a b (oZ s v t):=by
 refine⟨Dg (fun c=>?_) (acT j e i g),fun k h=>?_⟩
 ·refine and_congr_right fun h=>?_;rw[sC,sC];simp only[T.ap,aA c h]
 ·unfold oZ at h;split at h
  ·cases h;exact⟨ak1 d f (W7 d aM),.inr (aet f e)⟩
  ·cases h
def CP{s:List az}{i:Int}(h:dC s i=none):cQ s i= .var i:=by simp[cQ,h]
def abm(V:List Int)(k:Nat):∀(m:Nat) (s:List az) (a b:T),gm s->h7 s->zK V s->rp V a->rp V b->A8 V s=k->(a.ap (cQ s)).size+(b.ap (cQ s)).size=m->
  ∃n o,lG n s a b=some o/\Df V s a b o:=by
 induction k using Nat.strongRecOn with
 |ind k Ni=>
 intro m;induction m using Nat.strongRecOn with
 |ind m BY=>
 intro s a b v K y bD ae Y hm;have r:=W8 y bD;have u:=W8 y ae;have O:=aca v a;have N:=aca v b;have D:=fun c (h:hE s c)=>QK h a;have A:=fun c (h:hE s c)=>QK h b;have sb:=fun i=>ab8 v (t:=a) (i:=i);have P:=fun i=>ab8 v (t:=b) (i:=i);have key:∀(rec:List az->T->T->aZ (aZ (List az))) (o:aZ (List az)),kP rec s (hU s a) (hU s b)=some o->(∀l a2 g f,hU s a= .pair l a2->hU s b= .pair g f->Df V s a b o)->Df V s a b o:=by
  intro rec o he bM;cases ex:hU s a with
  |var i=>
   have L:=sb i ex;have x:=fun c h=>(D c h).symm.trans (by rw[ex]);cases d:hU s b with
   |var j=>
    have z:=P j d;have p:=fun c h=>(A c h).symm.trans (by rw[d]);rw[ex,d]at he;simp only[kP]at he;have hi:i∈V:=by rw[ex]at r;exact r i (by simp[T.occ])
    have af:j∈V:=by rw[d]at u;exact u j (by simp[T.occ])
    rcases Int.lt_trichotomy i j with h|h|h
    ·rw[if_pos h]at he;cases he;refine F9 v y af (by rw[ex]at r;exact r) z (by simp[T.ap,CP L];omega) (fun w hw=>by simp[T.ap,CP L]at hw;omega) fun c q=>?_;rw[x c q,p c q];simp only[T.ap];exact⟨Eq.symm,Eq.symm⟩
    ·subst h;rw[if_neg Ω,if_pos rfl]at he;cases he;refine⟨⟨⟨v,K⟩,fun c=>⟨fun h=>⟨h,sC.2 ⟨?_,FZ c⟩⟩,fun h=>h.1⟩⟩,fun B e=>by cases e;exact⟨y,.inl rfl⟩⟩;simp only;rw[x c h,p c h]
    ·rw[if_neg Ω,if_neg Ω]at he;cases he;refine F9 v y hi (by rw[d]at u;exact u) L (by simp[T.ap,CP z];omega) (fun w hw=>by simp[T.ap,CP z]at hw;omega) fun c q=>?_;rw[x c q,p c q];simp only[T.ap]
   |_=>have p:=fun c h=>(A c h).symm.trans (by rw[d]);rw[ex,d]at he;simp only[kP]at he;cases he;refine F9 v y (by rw[ex]at r;exact r i (by simp[T.occ])) (by rw[d]at u;exact u) L (by simp[T.ap]) (fun w hw=>by simp[T.ap]at hw) fun c q=>?_;rw[x c q,p c q];simp only[T.ap]
  |pair l a2=>
   cases d:hU s b with
   |pair g f=>exact bM l a2 g f ex d
   |var j=>have z:=P j d;have x:=fun c h=>(D c h).symm.trans (by rw[ex]);have p:=fun c h=>(A c h).symm.trans (by rw[d]);rw[ex,d]at he;simp only[kP]at he;cases he;refine F9 v y (by rw[d]at u;exact u j (by simp[T.occ])) (by rw[ex]at r;exact r) z (by simp[T.ap]) (fun w hw=>by simp[T.ap]at hw) fun c q=>?_;rw[x c q,p c q];simp only[T.ap];exact⟨Eq.symm,Eq.symm⟩
   |_=>have x:=fun c h=>(D c h).symm.trans (by rw[ex]);have p:=fun c h=>(A c h).symm.trans (by rw[d]);rw[ex,d]at he;simp only[kP]at he;simp at he;subst he;refine⟨GB fun c J U=>?_,fun B e=>by cases e⟩;have:=(sC.1 U).1;simp only at this;rw[x c J,p c J]at this;simp[T.ap]at this
  |_=>
   have x:=fun c h=>(D c h).symm.trans (by rw[ex]);cases d:hU s b with
   |var j=>have z:=P j d;have p:=fun c h=>(A c h).symm.trans (by rw[d]);rw[ex,d]at he;simp only[kP]at he;cases he;refine F9 v y (by rw[d]at u;exact u j (by simp[T.occ])) (by rw[ex]at r;exact r) z (by simp[T.ap]) (fun w hw=>by simp[T.ap]at hw) fun c q=>?_;rw[x c q,p c q];simp only[T.ap];exact⟨Eq.symm,Eq.symm⟩
   |_=>
    have p:=fun c h=>(A c h).symm.trans (by rw[d]);rw[ex,d]at he;simp only[kP,dz]at he;split at he
    ·rename_i e;subst he;refine⟨⟨⟨v,K⟩,fun c=>⟨fun h=>⟨h,sC.2 ⟨?_,FZ c⟩⟩,fun h=>h.1⟩⟩,fun B e=>by cases e;exact⟨y,.inl rfl⟩⟩;simp only;rw[x c h,p c h];try rw[e]
    ·rename_i e;subst he;refine⟨GB fun c J U=>?_,fun B e=>by cases e⟩;have:=(sC.1 U).1;simp only at this;rw[x c J,p c J]at this;simp[T.ap]at this e;try exact e this
 by_cases H0:∃l a2 g f,hU s a= .pair l a2/\hU s b= .pair g f
 ·obtain⟨l,a2,g,f,ex,d⟩:=H0;have W:(l.ap (cQ s)).size+(g.ap (cQ s)).size<m/\(a2.ap (cQ s)).size+(f.ap (cQ s)).size<m:=by rw[ex]at O;rw[d]at N;simp only[T.ap]at O N;rw[<-hm,<-O,<-N];simp only[T.size];omega
  have kh:rp V l:=fun w hw=>by rw[ex]at r;exact r w (by simp[T.occ,hw])
  have Q:rp V a2:=fun w hw=>by rw[ex]at r;exact r w (by simp[T.occ,hw])
  have jr:rp V g:=fun w hw=>by rw[d]at u;exact u w (by simp[T.occ,hw])
  have R:rp V f:=fun w hw=>by rw[d]at u;exact u w (by simp[T.occ,hw])
  have V1:∀c,(hE s c/\kd ([(l,g)]++[(a2,f)]) c)↔(hE s c/\kd [(a,b)] c):=fun c=>and_congr_right fun h=>by simp only[List.singleton_append,sC,FZ,and_true];rw[<-D c h,<-A c h,ex,d];simp[T.ap]
  obtain⟨H,gZ,X,F⟩:=BY _ W.1 s l g v K y kh jr Y rfl;cases gZ with
  |none=>refine⟨H+1,none,?_,Dg V1 (Kz _ F.1),fun B e=>by cases e⟩;simp only[lG,ex,d,kP,X]
  |some s1=>
   obtain⟨v1,v2⟩:=F.2 s1 rfl;have Ez:∃E G,lG E s1 a2 f=some G/\Df V s1 a2 f G:=by
    rcases v2 with rfl|v2
    ·exact BY _ W.2 _ a2 f v K y Q R Y rfl
    ·exact Ni _ Ω _ s1 a2 f F.1.1.1 F.1.1.2 v1 Q R rfl rfl
   obtain⟨E,G,aC,S⟩:=Ez;refine⟨max H E+1,G,?_,Dg V1 (Q7 F.1 S.1),fun B e=>?_⟩
   ·simp only[lG,ex,d,kP,F7 (Nat.le_max_left H E) X];exact F7 (Nat.le_max_right H E) aC
   ·obtain⟨eQ,M⟩:=S.2 B e;refine⟨eQ,?_⟩;rcases v2 with rfl|v2
    ·exact M
    ·rcases M with rfl|M
     ·exact .inr v2
     ·exact .inr Ω
 ·have Z:∀l a2 g f,hU s a= .pair l a2->hU s b= .pair g f->eF:=fun l a2 g f J U=>H0 ⟨l,a2,g,f,J,U⟩;have:∃o,kP (lG 0) s (hU s a) (hU s b)=some o:=by cases ex:hU s a<;>cases d:hU s b<;>simp only[kP]<;>first|exact⟨_,rfl⟩|exact(Z _ _ _ _ ex d).elim
  obtain⟨o,al⟩:=this;exact⟨1,o,al,key _ o al fun l a2 g f J U=>(Z l a2 g f J U).elim⟩
end
end Go.Pv
