/- Classes of variables, as the program keeps them: what its functions compute, and what it means. -/
import Derived.Deep.LoopGhost
import Derived.Test.YtohaalphocaebaaGreatDoorProg
import Derived.Test.YtohaalphocaebaaGreatDoorY1
set_option linter.all false
set_option maxHeartbeats 4000000
set_option maxRecDepth 4000
open Array renaming getElem?_toList->um
open BitVec renaming ofInt->l3
open Bool renaming and_eq_true->cE,false_eq_true->gO,not_eq_true'->rC,or_eq_true->l4
open Decidable renaming not_not->arX
open Go renaming Program->cL,TypeId->gP
open Go.IntKind renaming bits->nW,i64->nk,signed->rD,u64->hv,wrap->sY
open Go.IntWalk renaming i64_in->mB
open Go.Op renaming bytesLess->hE
open Go.Proofs.Tryz renaming prog->az
open Go.Region renaming wanted->pd
open Go.Result renaming andThen_ok->fR
open Go.Sem renaming run_bind->fL,run_pure->gB
open Go.Value renaming cells->pe
open List renaming all_eq_true->fM,cons_append->bO,drop_eq_getElem_cons->kX,getElem?_eq_getElem->cf,getElem?_eq_none->qF,getElem?_eq_some_iff->fb,length_append->pf,length_cons->l5,map_cons->hk,map_nil->qG,mem_append->ih,mem_cons->fD,mem_cons_of_mem->oE,mem_filter->lC,mem_map->iy,mem_of_getElem?->ed,nil_append->bS,pairwise_cons->mC,pairwise_iff_getElem->pg
open List.Nodup renaming length_le_of_subset->Ow
open List.cons renaming injEq->xE
open Nat renaming le_refl->eX,le_trans->kn,strongRecOn->rF
open Ne renaming symm->ld
open Option renaming bind_some->jK,getD_none->l7,getD_some->jL,isSome_iff_exists->fE,isSome_none->lD,map_eq_some_iff->gk,map_some->oH
open Option.some renaming inj->eJ,injEq->dC
open Prod.mk renaming injEq->jM
open _root_ renaming DecidableEq->mA,False->eW,beq_iff_eq->dL,congrArg->eK,decide_eq_false_iff_not->gC,decide_eq_true_eq->e6
namespace Go.Pv
section
open Go Go.RowKit
def ahJ(A:dh)(s ah:cS)(rm:Option aL):Prop:=(∀k,(look k ah.b).isSome->(look k s.b).isSome\/rm=some k)/\(∀k,(look k ah.e).isSome->(look k s.e).isSome\/rm=some k)/\(∀k,(look k s.b).isSome->(look k ah.b).isSome)/\(∀k,(look k s.e).isSome->(look k ah.e).isSome)/\
 (∀k,rm=some k->(∃j,k= .obj j)/\A.F k/\A.b k=none/\A.e k=none/\((look k ah.b).isSome\/(look k ah.e).isSome))
def YR(P:cL)(n:Nat)(args:List ai)(A:dh)(d:Option Nat)(x:kY):Prop:=
 ∃s ah r rm,(∀k cs,look k s.b=some cs->A.b k=some cs/\aP (inObs s) cs)/\(∀k o,look k s.e=some o->A.e k=some o/\dV (inObs s) o)/\jc s/\jc ah/\ahJ A s ah rm/\aP (inObs s) args/\
  bH P n args s (fun eM dE=>eM=r/\dE=ah)/\x=⟨d,r,ah.b,ah.e,rm⟩
def YS(P:cL)(n0 n:Nat)(args:List ai)(A:dh)(d:Option Nat)(x:kY):Prop:=
 ∃cP r,d=some cP/\(A.F (.loc (n0+cP))/\A.b (.loc (n0+cP))=none/\A.e (.loc (n0+cP))=none)/\aP (fun _=>eW) args/\
  Iy P n (n0+cP) args ⟨[],[]⟩ (fun eM dE=>eM=r/\dE=⟨[],[]⟩)/\x=⟨d,r,[],[],some (.loc (n0+cP))⟩
def yz:ai->Bool
 | .ptr (.loc _) _=>true
 | .eptr _=>true
 |_=>false
def fV.isB:fV->Bool
 | .loadB _ _ _=>true
 | .mgetB _ _ _ _ _=>true
 |_=>false
def fV.ptrOf(t:Nat->ai):fV->ai
 | .load _ _ x=>dA t x
 | .loadB _ _ x=>dA t x
 |_=>.junk
def ep(P:cL)(q:Bool)(n0:Nat):ee->dh->kY->Prop
 | .s (.v d i),A,x=> ∃c p,pZ A.t A.b A.e i=some (c,p)/\c/\(i.isLoad=true->i.isB=true\/q=true\/yz (i.ptrOf A.t)=true)/\x=⟨some d,p,[],[],none⟩
 | .s (.box d none v),A,x=>(A.F (.loc (n0+d))/\A.b (.loc (n0+d))=none/\A.e (.loc (n0+d))=none)/\eO (dA A.t v)=true/\x=⟨some d,.ptr (.loc (n0+d)) 0,[(.loc (n0+d),cells (dA A.t v))],[],some (.loc (n0+d))⟩
 | .s (.alloc d none z),A,x=>(A.F (.loc (n0+d))/\A.b (.loc (n0+d))=none/\A.e (.loc (n0+d))=none)/\x=⟨some d,.ptr (.loc (n0+d)) 0,[(.loc (n0+d),cells z)],[],some (.loc (n0+d))⟩
 | .s (.store sz u v),A,x=> ∃k off cs,dA A.t u= .ptr k off/\A.b k=some cs/\(hV cs=true/\eO (dA A.t v)=true/\(cells (dA A.t v)).length=sz/\off+sz<=cs.length)/\x=⟨none,.junk,[(k,ov cs off (cells (dA A.t v)))],[],none⟩
 | .s (.bsl d sz el xs),A,x=>(A.F (.loc (n0+d))/\A.b (.loc (n0+d))=none/\A.e (.loc (n0+d))=none)/\ta sz (xs.map (dA A.t))/\x=⟨some d,.slice sz (.own (.loc (n0+d))) (xs.map (dA A.t)),[],[(.loc (n0+d),⟨xs.length,el,sz,none⟩)],some (.loc (n0+d))⟩
 | .s (.app d sz el u v),A,x=> ∃tag xs k8 ys,dA A.t u= .slice sz tag xs/\dA A.t v= .slice sz k8 ys/\
   ((∃k o,tag= .own k/\A.e k=some o/\(o.xs=none/\o.n=xs.length/\o.el=el/\o.sz=sz/\xs.length+ys.length<=lim)/\x=⟨some d,.slice sz (.own k) (xs++ys),[],[(k,⟨xs.length+ys.length,el,sz,none⟩)],none⟩)\/
    (tag= .nil/\ys.length<=lim/\(A.F (.loc (n0+d))/\A.b (.loc (n0+d))=none/\A.e (.loc (n0+d))=none)/\x=⟨some d,.slice sz (.own (.loc (n0+d))) ys,[],[(.loc (n0+d),⟨ys.length,el,sz,none⟩)],some (.loc (n0+d))⟩))
 | .s (.appm d _ sz el u v),A,x=> ∃k n xs k8 ys,dA A.t u= .row sz k n/\dA A.t v= .slice sz k8 ys/\A.e k=some ⟨n,el,sz,some xs⟩/\xs.length+ys.length<=lim/\x=⟨some d,.row sz k (xs.length+ys.length),[],[(k,⟨xs.length+ys.length,el,sz,some (xs++ys)⟩)],none⟩
 | .s (.storeE sz u v),A,x=> ∃k n i f el dK xs q,dA A.t u= .rptr dK k n i f/\A.e k=some ⟨n,el,dK,some xs⟩/\xs[i]? =some q/\(eO q=true/\eO (dA A.t v)=true/\(cells (dA A.t v)).length=sz/\f+sz<=(cells q).length/\0<sz)/\x=⟨none,.junk,[],[(k,⟨n,el,dK,some (xs.set i (pY q f (cells (dA A.t v))))⟩)],none⟩
 | .s (.mkmap d (some m)),A,x=>(A.F (.obj m)/\A.b (.obj m)=none/\A.e (.obj m)=none)/\x=⟨some d,.gmap (.obj m),[(.obj m,[.hdm 0 []])],[],some (.obj m)⟩
 | .s (.mput cg u k v),A,x=> ∃m cs cs',dA A.t u= .gmap m/\A.b m=some cs/\nK cg (dA A.t k) (dA A.t v) cs=some cs'/\x=⟨none,.junk,[(m,cs')],[],none⟩
 | .call d f xs,A,x=> ∃n dn,dA A.t f= .func n dn/\((YR P n (dv (xs.map (dA A.t)++dn)) A d x/\(q=true->x.bw=[]/\x.ew=[]))\/YS P n0 n (dv (xs.map (dA A.t)++dn)) A d x)
 |_,_,_=>eW
inductive BU where
 |v|l|n|s|w|a|c|m|r|k
 deriving mA
def ee.mode:ee->BU
 | .s (.v _ (.loadB _ _ _))=>.m
 | .s (.v _ (.mgetB _ _ _ _ _))=>.m
 | .s (.v _ i)=>if i.isLoad then .l else .v
 | .s (.storeE _ _ _)=>.r
 | .s (.box _ _ _)=>.n
 | .s (.alloc _ _ _)=>.n
 | .s (.store _ _ _)=>.w
 | .s (.bsl _ _ _ _)=>.s
 | .s (.app _ _ _ _ _)=>.a
 | .s (.bslm _ _ _ _ _)=>.w
 | .s (.mks _ _ _ _ _ _)=>.w
 | .s (.appm _ _ _ _ _ _)=>.r
 | .s (.mkmap _ _)=>.k
 | .s (.mput _ _ _ _)=>.w
 | .s (.range _ _ _)=>.w
 | .call _ _ _=>.c
 | .next _ _=>.w
structure IK (q:Bool) (n0:Nat) (m:BU) (dst:Option Nat) (A:dh) (x:kY):Prop where
 d:x.d=dst
 b:∀k,(look k x.bw).isSome->(m= .n/\∃d,dst=some d/\k= .loc (n0+d)/\A.b k=none/\A.e k=none)\/m= .w\/(m= .c/\(∃j,k= .obj j)/\q=false)\/(m= .k/\(∃j,k= .obj j)/\A.b k=none/\A.e k=none)
 e:∀k,(look k x.ew).isSome->(m= .s/\∃d,dst=some d/\k= .loc (n0+d)/\A.b k=none/\A.e k=none)\/(m= .a/\(A.e k≠none\/ ∃d,dst=some d/\k= .loc (n0+d)/\A.b k=none/\A.e k=none))\/(m= .c/\(∃j,k= .obj j)/\q=false)\/(m= .r/\∃o,A.e k=some o/\o.xs≠none)
 r:∀k,x.rm=some k->(∃d,dst=some d/\k= .loc (n0+d))\/((m= .c\/m= .k)/\(∃j,k= .obj j)/\((look k x.bw).isSome\/(look k x.ew).isSome))
 ex:m= .a->∀k o,(look k x.ew).isSome->A.e k=some o->o.xs=none
 xn:m= .a\/m= .s->∀k o,look k x.ew=some o->o.xs=none
theorem tR{α:Type}{k bI:aL}{x:α}(h:(look k [(bI,x)]).isSome):k=bI:=by
 simp only[look]at h;split at h
 ·rename_i e;exact e.symm
 ·cases h
theorem LP{k bI:aL}{n el sz:Nat}{o:fN}(h:look k [(bI,(⟨n,el,sz,none⟩:fN))]=some o):o.xs=none:=by
 simp only[look]at h;split at h
 ·cases h;rfl
 ·cases h
theorem XI{P:cL}{q:Bool}{n0:Nat}{i:ee}{A:dh}{x:kY}(h:ep P q n0 i A x):IK q n0 i.mode i.dst A x:=by
 cases i with
 |s i=>
  cases i with
  |v d i=>simp only[ep]at h;obtain⟨c,p,_,_,_,rfl⟩:=h;exact⟨rfl,fun k ad=>by simp[look]at ad,fun k ad=>by simp[look]at ad,fun k ad=>by simp at ad,fun _ k o ad=>by simp[look]at ad,fun _ k o ad=>by simp[look]at ad⟩
  |box d key v=>
   cases key with
   |some m=>simp only[ep]at h
   |none=>simp only[ep]at h;obtain⟨⟨_,U,ar⟩,_,rfl⟩:=h;exact⟨rfl,fun k ad=>by obtain rfl:=tR ad;exact .inl ⟨rfl,d,rfl,rfl,U,ar⟩,fun k ad=>by simp[look]at ad,fun k ad=>by simp at ad;exact .inl ⟨d,rfl,ad.symm⟩,fun _ k o ad=>by simp[look]at ad,fun _ k o ad=>by simp[look]at ad⟩
  |alloc d key z=>
   cases key with
   |some m=>simp only[ep]at h
   |none=>simp only[ep]at h;obtain⟨⟨_,U,ar⟩,rfl⟩:=h;exact⟨rfl,fun k ad=>by obtain rfl:=tR ad;exact .inl ⟨rfl,d,rfl,rfl,U,ar⟩,fun k ad=>by simp[look]at ad,fun k ad=>by simp at ad;exact .inl ⟨d,rfl,ad.symm⟩,fun _ k o ad=>by simp[look]at ad,fun _ k o ad=>by simp[look]at ad⟩
  |store sz u v=>simp only[ep]at h;obtain⟨k,off,cs,_,_,_,rfl⟩:=h;exact⟨rfl,fun k ad=>.inr (.inl rfl),fun k ad=>by simp[look]at ad,fun k ad=>by simp at ad,fun _ k o ad=>by simp[look]at ad,fun _ k o ad=>by simp[look]at ad⟩
  |bsl d sz el xs=>simp only[ep]at h;obtain⟨⟨_,U,ar⟩,_,rfl⟩:=h;exact⟨rfl,fun k ad=>by simp[look]at ad,fun k ad=>by obtain rfl:=tR ad;exact .inl ⟨rfl,d,rfl,rfl,U,ar⟩,fun k ad=>by simp at ad;exact .inl ⟨d,rfl,ad.symm⟩,fun e=>by simp[ee.mode]at e,fun _ k o ad=>LP ad⟩
  |app d sz el u v=>
   simp only[ep]at h;obtain⟨tag,xs,k8,ys,_,_,h⟩:=h;rcases h with⟨k,o,_,J,⟨hN,_⟩,rfl⟩|⟨_,_,⟨_,U,ar⟩,rfl⟩
   ·exact⟨rfl,fun k ad=>by simp[look]at ad,fun k ad=>by obtain rfl:=tR ad;exact .inr (.inl ⟨rfl,.inl (by rw[J];simp)⟩),fun k ad=>by simp at ad,fun _ bI o' ad ax=>by obtain rfl:=tR ad;rw[J]at ax;cases ax;exact hN,fun _ k o ad=>LP ad⟩
   ·exact⟨rfl,fun k ad=>by simp[look]at ad,fun k ad=>by obtain rfl:=tR ad;exact .inr (.inl ⟨rfl,.inr ⟨d,rfl,rfl,U,ar⟩⟩),fun k ad=>by simp at ad;exact .inl ⟨d,rfl,ad.symm⟩,fun _ bI o' ad ax=>(by obtain rfl:=tR ad;rw[ar]at ax;cases ax),fun _ k o ad=>LP ad⟩
  |bslm d key sz el xs=>simp only[ep]at h
  |mks d key sz el z x=>simp only[ep]at h
  |appm d key sz el u v=>simp only[ep]at h;obtain⟨k,n,xs,k8,ys,_,_,J,_,rfl⟩:=h;exact⟨rfl,fun k ad=>by simp[look]at ad,fun k ad=>by obtain rfl:=tR ad;exact .inr (.inr (.inr ⟨rfl,_,J,Ψ⟩)),fun k ad=>by simp at ad,fun e=>by simp[ee.mode]at e,fun e=>by simp[ee.mode]at e⟩
  |storeE sz u v=>simp only[ep]at h;obtain⟨k,n,i,f,el,dK,xs,q,_,J,_,_,rfl⟩:=h;exact⟨rfl,fun k ad=>by simp[look]at ad,fun k ad=>by obtain rfl:=tR ad;exact .inr (.inr (.inr ⟨rfl,_,J,Ψ⟩)),fun k ad=>by simp at ad,fun e=>by simp[ee.mode]at e,fun e=>by simp[ee.mode]at e⟩
  |mkmap d key=>
   cases key with
   |none=>simp only[ep]at h
   |some m=>simp only[ep]at h;obtain⟨⟨_,U,ar⟩,rfl⟩:=h;exact⟨rfl,fun k ad=>by obtain rfl:=tR ad;exact .inr (.inr (.inr ⟨rfl,⟨m,rfl⟩,U,ar⟩)),fun k ad=>by simp[look]at ad,fun k ad=>by simp at ad;subst ad;exact .inr ⟨.inr rfl,⟨m,rfl⟩,.inl (by simp[look])⟩,fun e=>by simp[ee.mode]at e,fun e=>by simp[ee.mode]at e⟩
  |mput cg x k v=>simp only[ep]at h;obtain⟨m,cs,cs',_,_,_,rfl⟩:=h;exact⟨rfl,fun k ad=>.inr (.inl rfl),fun k ad=>by simp[look]at ad,fun k ad=>by simp at ad,fun e=>by simp[ee.mode]at e,fun e=>by simp[ee.mode]at e⟩
  |range d key x=>simp only[ep]at h
 |next d x=>simp only[ep]at h
 |call d f xs=>
  simp only[ep]at h;obtain⟨n,dn,_,h⟩:=h;rcases h with⟨⟨s,ah,r,rm,_,_,_,ax,Tt,_,_,rfl⟩,bF⟩|⟨cP,r,rfl,_,_,_,rfl⟩;rotate_left
  ·exact⟨rfl,fun k ad=>by simp[look]at ad,fun k ad=>by simp[look]at ad,fun k ad=>by simp at ad;exact .inl ⟨cP,rfl,ad.symm⟩,fun _ k o ad=>by simp[look]at ad,fun _ k o ad=>by simp[look]at ad⟩
  refine⟨rfl,fun k ad=>.inr (.inr (.inl ⟨rfl,?_,?_⟩)),fun k ad=>.inr (.inr (.inl ⟨rfl,?_,?_⟩)),fun k ad=>.inr ⟨.inl rfl,(Tt.2.2.2.2 k ad).1,(Tt.2.2.2.2 k ad).2.2.2.2⟩,fun e=>by simp[ee.mode]at e,fun e=>by simp[ee.mode]at e⟩
  ·cases k with
   |loc m=>rw[ax.1 m]at ad;cases ad
   |obj m=>exact⟨m,rfl⟩
  ·cases q with
   |false=>rfl
   |true=>rw[(bF rfl).1]at ad;simp[look]at ad
  ·cases k with
   |loc m=>rw[ax.2 m]at ad;cases ad
   |obj m=>exact⟨m,rfl⟩
  ·cases q with
   |false=>rfl
   |true=>rw[(bF rfl).2]at ad;simp[look]at ad
theorem OB{P:cL}{q:Bool}{n0:Nat}{i:ee}{A gl:dh}{x:kY}(h:ep P q n0 i A x)(aM:qN i.looks A.t gl.t)
  (av:i.mode= .l->∀k,(q=true\/ ∃m,k= .loc m)->A.b k≠none->gl.b k=A.b k) (Tm:i.mode= .m->∀k,A.b k≠none->gl.b k=A.b k)
  (lr:i.mode= .l->q=true->∀k o,A.e k=some o->o.xs≠none->gl.e k=some o)
  (ay:∀d,i.dst=some d->(i.mode= .n\/i.mode= .s\/i.mode= .a\/i.mode= .c)->(A.F (.loc (n0+d))/\A.b (.loc (n0+d))=none/\A.e (.loc (n0+d))=none)->(gl.F (.loc (n0+d))/\gl.b (.loc (n0+d))=none/\gl.e (.loc (n0+d))=none))
  (bk:i.mode= .a->∀k o,A.e k=some o->gl.e k=some o) (hw:i.mode= .w->∀k,gl.b k=A.b k) (sj:i.mode= .k->∀m,(A.F (.obj m)/\A.b (.obj m)=none/\A.e (.obj m)=none)->(gl.F (.obj m)/\gl.b (.obj m)=none/\gl.e (.obj m)=none)) (C8:i.mode= .r->∀k o,A.e k=some o->o.xs≠none->gl.e k=some o)
  (aq:i.mode= .c->∀m,gl.b (.obj m)=A.b (.obj m)/\gl.e (.obj m)=A.e (.obj m)/\(A.F (.obj m)->gl.F (.obj m))):ep P q n0 i gl x:=by
 cases i with
 |s i=>
  cases i with
  |v d i=>
   simp only[ep]at h⊢;obtain⟨c,p,J,U,ar,a8⟩:=h;by_cases jR:∃agg sz y,i= .loadB agg sz y
   ·obtain⟨agg,sz,y,rfl⟩:=jR;simp only[ee.looks,eh.looks,fV.looks]at aM;have uW:=gw aM;refine⟨c,p,?_,U,fun _=>.inl rfl,a8⟩;rw[<-J];simp only[pZ,<-uW];have hm:=Tm (by simp[ee.mode]);simp only[pZ]at J;cases bK:dA A.t y<;>simp only[sq];rename_i key off;rw[bK]at J;simp only[sq]at J;cases ab:A.b key with
    |none=>simp[ab]at J
    |some cs=>have:gl.b key=A.b key:=hm key (by rw[ab];simp);rw[this,ab]
   by_cases FU:∃cg zero ok y z,i= .mgetB cg zero ok y z
   ·obtain⟨cg,zero,ok,y,z,rfl⟩:=FU;simp only[ee.looks,eh.looks,fV.looks]at aM;obtain⟨t1,t2⟩:=kB aM;refine⟨c,p,?_,U,fun _=>.inl rfl,a8⟩;simp only[pZ]at J⊢;rw[<-gw t1,<-gw t2];exact U9 (Tm (by simp[ee.mode])) J
   replace ar:i.isLoad=true->q=true\/yz (i.ptrOf A.t)=true:=fun oe=>(ar oe).resolve_left (fun ab=>by cases i<;>simp[fV.isB]at ab;exact jR ⟨_,_,_,rfl⟩;exact FU ⟨_,_,_,_,_,rfl⟩);have afn:i.isLoad=true->(ee.s (.v d i)).mode= .l:=by intro oe;cases i<;>simp only[fV.isLoad]at oe<;>first|(cases oe;done)|(simp[ee.mode,fV.isLoad];done)|exact absurd ⟨_,_,_,rfl⟩ jR|exact absurd ⟨_,_,_,_,_,rfl⟩ FU
   by_cases oe:i.isLoad=true
   ·have bF:∀(bK:yz (i.ptrOf A.t)=false),∀k,A.b k≠none->gl.b k=A.b k:=fun bK k ad=>av (afn oe) k (.inl ((ar oe).resolve_right (by rw[bK];simp))) ad;cases i<;>simp only[fV.isLoad]at oe<;>try(cases oe;done)
    case mget cg zero ok y z=>simp only[ee.looks,eh.looks,fV.looks]at aM;obtain⟨t1,t2⟩:=kB aM;refine⟨c,p,?_,U,fun _=>.inr (ar rfl),a8⟩;simp only[pZ]at J⊢;rw[<-gw t1,<-gw t2];exact U9 (bF rfl) J
    case ment y=>simp only[ee.looks,eh.looks,fV.looks]at aM;refine⟨c,p,?_,U,fun _=>.inr (ar rfl),a8⟩;simp only[pZ]at J⊢;rw[<-gw aM];exact ahj (bF rfl) J
    case mlen y=>simp only[ee.looks,eh.looks,fV.looks]at aM;refine⟨c,p,?_,U,fun _=>.inr (ar rfl),a8⟩;simp only[pZ]at J⊢;rw[<-gw aM];exact ahA (bF rfl) J
    case loadB agg sz y=>exact absurd ⟨_,_,_,rfl⟩ jR
    case mgetB=>exact absurd ⟨_,_,_,_,_,rfl⟩ FU
    rename_i agg sz y;simp only[ee.looks,eh.looks,fV.looks]at aM;have uW:=gw aM;refine⟨c,p,?_,U,fun _=>.inr (by have:=ar rfl;simpa only[fV.ptrOf,<-uW]using this),a8⟩;rw[<-J];simp only[pZ,<-uW];have hm:=av (by simp[ee.mode,fV.isLoad]);simp only[pZ]at J;have tq:=ar rfl;simp only[fV.ptrOf]at tq;cases bK:dA A.t y<;>simp only[sq]
    ·rename_i key off;rw[bK]at J tq;simp only[sq]at J;cases ab:A.b key with
     |none=>simp[ab]at J
     |some cs=>have:gl.b key=A.b key:=hm key (by rcases tq with h|h;exact .inl h;cases key;exact .inr ⟨_,rfl⟩;simp[yz]at h) (by rw[ab];simp);rw[this,ab]
    ·rename_i dK key n i f;rw[bK]at J tq;simp only[sq]at J;have afF:q=true:=tq.resolve_right (by simp[yz]);unfold y8 at J;split at J
     ·rename_i n' el ju xs he;rw[he,lr (by simp[ee.mode,fV.isLoad]) afF key _ he Ψ]
     ·cases J
   ·have oe:i.isLoad=false:=by simpa using oe
    refine⟨c,p,?_,U,(fun e=>by rw[oe]at e;cases e),a8⟩;rw[<-J];exact(amh (by simpa only[ee.looks,eh.looks]using aM) oe).symm
  |box d key v=>
   cases key with
   |some m=>simp only[ep]at h
   |none=>simp only[ep,ee.looks,eh.looks]at h aM⊢;obtain⟨J,U,ar⟩:=h;rw[<-gw aM];exact⟨ay d rfl (.inl rfl) J,U,ar⟩
  |alloc d key z=>
   cases key with
   |some m=>simp only[ep]at h
   |none=>simp only[ep]at h⊢;exact⟨ay d rfl (.inl rfl) h.1,h.2⟩
  |store sz u v=>simp only[ep,ee.looks,eh.looks]at h aM⊢;obtain⟨J,U⟩:=kB aM;rw[<-gw J,<-gw U];obtain⟨k,off,cs,g1,g2,g3,g4⟩:=h;exact⟨k,off,cs,g1,by rw[hw rfl];exact g2,g3,g4⟩
  |bsl d sz el xs=>simp only[ep,ee.looks,eh.looks]at h aM⊢;rw[<-GX aM];exact⟨ay d rfl (.inr (.inl rfl)) h.1,h.2⟩
  |app d sz el u v=>
   simp only[ep,ee.looks,eh.looks]at h aM⊢;obtain⟨J,U⟩:=kB aM;rw[<-gw J,<-gw U];obtain⟨tag,xs,k8,ys,g1,g2,h⟩:=h;refine⟨tag,xs,k8,ys,g1,g2,?_⟩;rcases h with⟨k,o,ao,aF,bA⟩|⟨ao,aF,bA,dr⟩
   ·exact .inl ⟨k,o,ao,bk rfl k o aF,bA⟩
   ·exact .inr ⟨ao,aF,ay d rfl (.inr (.inr (.inl rfl))) bA,dr⟩
  |bslm d key sz el xs=>simp only[ep]at h
  |mks d key sz el z x=>simp only[ep]at h
  |appm d key sz el u v=>simp only[ep,ee.looks,eh.looks]at h aM⊢;obtain⟨J,U⟩:=kB aM;rw[<-gw J,<-gw U];obtain⟨k,n,xs,k8,ys,g1,g2,g3,g4,g5⟩:=h;exact⟨k,n,xs,k8,ys,g1,g2,C8 rfl k _ g3 Ψ,g4,g5⟩
  |storeE sz u v=>simp only[ep,ee.looks,eh.looks]at h aM⊢;obtain⟨J,U⟩:=kB aM;rw[<-gw J,<-gw U];obtain⟨k,n,i,f,el,dK,xs,q,g1,g2,g3⟩:=h;exact⟨k,n,i,f,el,dK,xs,q,g1,C8 rfl k _ g2 Ψ,g3⟩
  |mkmap d key=>
   cases key with
   |none=>simp only[ep]at h
   |some m=>simp only[ep]at h⊢;exact⟨sj rfl m h.1,h.2⟩
  |mput cg u k v=>simp only[ep,ee.looks,eh.looks]at h aM⊢;obtain⟨t1,t3⟩:=kB aM;obtain⟨t1,t2⟩:=kB t1;obtain⟨m,cs,cs',g1,g2,g3,g4⟩:=h;rw[<-gw t1,<-gw t2,<-gw t3];exact⟨m,cs,cs',g1,by rw[hw rfl];exact g2,g3,g4⟩
  |range d key x=>simp only[ep]at h
 |next d x=>simp only[ep]at h
 |call d f xs=>
  simp only[ep,ee.looks]at h aM⊢;obtain⟨J,U⟩:=kB aM;rw[<-gw J,<-GX U];obtain⟨n,dn,g1,h⟩:=h;rcases h with⟨⟨s,ah,r,rm,bT,cx,dy,kp,k1,n4⟩,g3⟩|⟨cP,r,rfl,bT,cx⟩;rotate_left
  ·exact⟨n,dn,g1,.inr ⟨cP,r,rfl,ay cP rfl (.inr (.inr (.inr rfl))) bT,cx⟩⟩
  refine⟨n,dn,g1,.inl ⟨⟨s,ah,r,rm,fun k cs ad=>?_,fun k o ad=>?_,dy,kp,⟨k1.1,k1.2.1,k1.2.2.1,k1.2.2.2.1,fun k ad=>?_⟩,n4⟩,g3⟩⟩
  ·cases k with
   |loc m=>rw[dy.1 m]at ad;cases ad
   |obj m=>rw[(aq rfl m).1];exact bT _ _ ad
  ·cases k with
   |loc m=>rw[dy.2 m]at ad;cases ad
   |obj m=>rw[(aq rfl m).2.1];exact cx _ _ ad
  ·obtain⟨⟨j,rfl⟩,d2,d3,d4,d5⟩:=k1.2.2.2.2 k ad;exact⟨⟨j,rfl⟩,(aq rfl j).2.2 d2,by rw[(aq rfl j).1];exact d3,by rw[(aq rfl j).2.1];exact d4,d5⟩
def ly(d:Option Nat):kY:=⟨d,.tuple [],[],[],none⟩
def kZ(P:cL)(q:Bool)(n0:Nat)(g:c9)(A:dh)(x:kY):Prop:=
 match g.g with
 |none=>ep P q n0 g.i A x
 |some (s,w)=>match A.t s with
  | .bool b=>(b=w/\ep P q n0 g.i A x)\/(b= !w/\x=ly g.i.dst)
  | .tuple []=>x=ly g.i.dst
  |_=>eW
def e9:BU->BU->Bool
 | .v,_=>true
 |_,.v=>true
 | .l,.l| .l,.n| .l,.s| .l,.a| .l,.c=>true
 | .n,.n| .n,.s| .n,.a| .n,.c=>true
 | .s,.l| .s,.n| .s,.s| .s,.c=>true
 | .a,.l| .a,.n| .a,.s=>true
 | .c,.l| .c,.n| .c,.s=>true
 | .l,.m| .m,.l| .m,.m| .m,.n| .m,.s| .m,.a| .s,.m| .a,.m=>true
 | .l,.k| .m,.k| .n,.k| .s,.k=>true
 | .m,.r| .r,.m| .r,.n| .r,.s| .n,.r| .s,.r| .r,.w| .w,.r=>true
 |_,_=>false
def zY(g h:c9):Bool:=(match g.i.dst with|some d=> !(h.looks.contains d)&&h.i.dst !=some d|none=>true)&&(match h.i.dst with|some d=> !(g.looks.contains d)|none=>true)&&e9 g.i.mode h.i.mode
theorem XJ(q:Bool)(n0:Nat)(m:BU)(d:Option Nat)(A:dh):IK q n0 m d A (ly d):=⟨rfl,fun k ad=>by simp[ly,look]at ad,fun k ad=>by simp[ly,look]at ad,fun k ad=>by simp[ly]at ad,fun _ k o ad=>by simp[ly,look]at ad,fun _ k o ad=>by simp[ly,look]at ad⟩
theorem NO{P:cL}{q:Bool}{n0:Nat}{g:c9}{A:dh}{x:kY}(h:kZ P q n0 g A x):IK q n0 g.i.mode g.i.dst A x:=by
 unfold kZ at h;split at h
 ·exact XI h
 ·split at h
  ·rcases h with⟨_,h⟩|⟨_,rfl⟩
   ·exact XI h
   ·exact XJ _ _ _ _ _
  ·subst h;exact XJ _ _ _ _ _
  ·exact h.elim
theorem tj{A:dh}{x:kY}{k:aL}(h:look k x.bw=none):(A.do x).b k=A.b k:=by simp[dh.do,iD,h]
theorem tk{A:dh}{x:kY}{k:aL}(h:look k x.ew=none):(A.do x).e k=A.e k:=by simp[dh.do,iD,h]
theorem JB{A:dh}{x:kY}{k:aL}(h:(A.do x).b k=none):A.b k=none:=by
 simp only[dh.do,iD]at h;split at h
 ·cases h
 ·exact h
theorem JC{A:dh}{x:kY}{k:aL}(h:(A.do x).e k=none):A.e k=none:=by
 simp only[dh.do,iD]at h;split at h
 ·cases h
 ·exact h
theorem lW{α:Type}{o:Option α}(h:¬o.isSome):o=none:=by cases o<;>simp at h⊢
theorem OD{P:cL}{q:Bool}{n0:Nat}{g:c9}{A gl:dh}{x:kY}(h:kZ P q n0 g A x)(aM:qN g.looks A.t gl.t)(hm:ep P q n0 g.i A x->ep P q n0 g.i gl x):kZ P q n0 g gl x:=by
 unfold kZ at h⊢;cases aX:g.g with
 |none=>simp only[aX]at h⊢;exact hm h
 |some zh=>
  obtain⟨s,w⟩:=zh;have:A.t s=gl.t s:=aM s (by simp[c9.looks,aX]);simp only[aX,this]at h⊢;split at h
  ·rcases h with⟨J,U⟩|h
   ·exact .inl ⟨J,hm U⟩
   ·exact .inr h
  ·exact h
  ·exact h
theorem swap{P:cL}{q:Bool}{n0:Nat}{g h:c9}(Td:zY g h=true){A:dh}{x y:kY}(ae:kZ P q n0 g A x)(aH:kZ P q n0 h (A.do x) y):
  kZ P q n0 h A y/\kZ P q n0 g (A.do y) x/\x.apart y:=by
 simp only[zY,cE]at Td;obtain⟨⟨fk,eQ⟩,hm⟩:=Td;have zi:=NO ae;have cK:∀d cl,g.i.dst=some d->h.i.dst=some cl->d≠cl:=by intro d cl ao aF e;simp only[ao,cE,bne_iff_ne]at fk;exact fk.2 (by rw[aF,e])
 have FW:qN h.looks (A.do x).t A.t:=by intro i hi;simp only[dh.do];rw[if_neg];intro e;rw[zi.d]at e;simp only[e,cE,rC,List.contains_eq_mem,gC]at fk;exact fk.1 hi
 have q1:∀k,(look k x.bw).isSome->_:=zi.b;have hle:∀k,(look k x.ew).isSome->_:=zi.e;have Up:kZ P q n0 h A y:=by
  refine OD aH FW fun jS=>OB jS (fun i hi=>FW i (by simp[c9.looks,hi])) (fun e k ad ab=>?_) (fun e k ab=>?_) (fun e bF k o ax hN=>?_) (fun d aN tC lL=>?_) (fun e k o ax=>?_) (fun e k=>?_) (fun e m lL=>⟨lL.1.1,JB lL.2.1,JC lL.2.2⟩) (fun e k o ax hN=>?_) (fun e m=>?_)
  ·rw[tj (lW fun ag=>?_)];rcases q1 k ag with⟨ao,_⟩|ao|⟨ao,⟨j,aF⟩,bA⟩|⟨ao,_⟩;rotate_left 3
   ·rw[e,ao]at hm;simp[e9]at hm
   ·rw[e,ao]at hm;simp[e9]at hm
   ·rw[e,ao]at hm;simp[e9]at hm
   ·rcases ad with ad|⟨m,ad⟩
    ·rw[ad]at bA;cases bA
    ·rw[ad]at aF;cases aF
  ·rw[tj (lW fun ag=>?_)];rcases q1 k ag with⟨ao,_⟩|ao|⟨ao,_⟩|⟨ao,_⟩<;>(rw[e,ao]at hm;simp[e9]at hm)
  ·rw[e]at hm;cases ib:look k x.ew with
   |none=>rw[tk ib]at ax;exact ax
   |some o'=>
    exfalso;have KU:(A.do x).e k=some o':=by simp[dh.do,iD,ib]
    rw[KU]at ax;cases ax;rcases hle k (by simp[ib])with⟨ao,_⟩|⟨ao,_⟩|⟨ao,_,bA⟩|⟨ao,_⟩
    ·exact hN (zi.xn (.inr ao) k _ ib)
    ·exact hN (zi.xn (.inl ao) k _ ib)
    ·rw[bF]at bA;cases bA
    ·rw[ao]at hm;simp[e9]at hm
  ·exact⟨lL.1.1,JB lL.2.1,JC lL.2.2⟩
  ·rw[tk (lW fun ag=>?_)]at ax
   ·exact ax
   ·rw[e]at hm;rcases hle k ag with⟨ao,_⟩|⟨ao,_⟩|⟨ao,_⟩|⟨ao,_⟩<;>(rw[ao]at hm;simp[e9]at hm)
  ·rw[tj (lW fun ag=>?_)];rw[e]at hm;rcases q1 k ag with⟨ao,_⟩|ao|⟨ao,_⟩|⟨ao,_⟩<;>(rw[ao]at hm;simp[e9]at hm)
  ·rw[e]at hm;cases ib:look k x.ew with
   |none=>rw[tk ib]at ax;exact ax
   |some o'=>
    exfalso;have KU:(A.do x).e k=some o':=by simp[dh.do,iD,ib]
    rw[KU]at ax;cases ax;rcases hle k (by simp[ib])with⟨ao,_⟩|⟨ao,_⟩|⟨ao,_⟩|⟨ao,_⟩
    ·exact hN (zi.xn (.inr ao) k _ ib)
    ·rw[ao]at hm;simp[e9]at hm
    ·rw[ao]at hm;simp[e9]at hm
    ·rw[ao]at hm;simp[e9]at hm
  ·rw[e]at hm;refine⟨?_,?_,fun gm=>gm.1⟩
   ·rw[tj (lW fun ag=>?_)];rcases q1 _ ag with⟨ao,d,_,aF,_⟩|ao|⟨ao,_⟩|⟨ao,_⟩;rotate_left 3
    ·rw[ao]at hm;simp[e9]at hm
    ·cases aF
    ·rw[ao]at hm;simp[e9]at hm
    ·rw[ao]at hm;simp[e9]at hm
   ·rw[tk (lW fun ag=>?_)];rcases hle _ ag with⟨ao,d,_,aF,_⟩|⟨ao,_⟩|⟨ao,_⟩|⟨ao,_⟩
    ·cases aF
    ·rw[ao]at hm;simp[e9]at hm
    ·rw[ao]at hm;simp[e9]at hm
    ·rw[ao]at hm;simp[e9]at hm
 have ty:=NO Up;have SU:qN g.looks A.t (A.do y).t:=by intro i hi;simp only[dh.do];rw[if_neg];intro e;rw[ty.d]at e;simp only[e,rC,List.contains_eq_mem,gC]at eQ;exact eQ hi
 refine⟨Up,?_,?_⟩
 ·refine OD ae SU fun jS=>OB jS (fun i hi=>SU i (by simp[c9.looks,hi])) (fun e k ad ab=>?_) (fun e k ab=>?_) (fun e bF k o ax hN=>?_) (fun d aN tC lL=>?_) (fun e k o ax=>?_) (fun e k=>?_) (fun e m lL=>?_) (fun e k o ax hN=>?_) (fun e m=>?_)
  ·refine tj (lW fun ag=>?_);rcases ty.b k ag with⟨ao,d,_,_,aF,_⟩|ao|⟨ao,⟨j,aF⟩,bA⟩|⟨_,_,aF,_⟩;rotate_left 3
   ·exact ab aF
   ·exact ab aF
   ·rw[e,ao]at hm;simp[e9]at hm
   ·rcases ad with ad|⟨m,ad⟩
    ·rw[ad]at bA;cases bA
    ·rw[ad]at aF;cases aF
  ·refine tj (lW fun ag=>?_);rcases ty.b k ag with⟨ao,d,_,_,aF,_⟩|ao|⟨ao,_⟩|⟨_,_,aF,_⟩;rotate_left 3
   ·exact ab aF
   ·exact ab aF
   ·rw[e,ao]at hm;simp[e9]at hm
   ·rw[e,ao]at hm;simp[e9]at hm
  ·rw[tk (lW fun ag=>?_)]
   ·exact ax
   ·rcases ty.e k ag with⟨ao,d,_,_,_,aF⟩|⟨ao,aF⟩|⟨ao,_,bA⟩|⟨ao,_⟩
    ·rw[aF]at ax;cases ax
    ·exact hN (ty.ex ao k o ag ax)
    ·rw[bF]at bA;cases bA
    ·rw[e,ao]at hm;simp[e9]at hm
  ·refine⟨⟨lL.1,fun qV=>?_⟩,?_,?_⟩
   ·rcases ty.r _ qV with⟨cl,ao,aF⟩|⟨_,⟨j,aF⟩,_⟩
    ·simp only[aL.loc.injEq]at aF;exact cK d cl aN ao Ω
    ·cases aF
   ·rw[tj (lW fun ag=>?_)]
    ·exact lL.2.1
    ·rcases ty.b _ ag with⟨ao,cl,aF,bA,_⟩|ao|⟨ao,⟨j,aF⟩,_⟩|⟨ao,⟨j,aF⟩,_⟩;rotate_left 3
     ·cases aF
     ·simp only[aL.loc.injEq]at bA;exact cK d cl aN aF Ω
     ·rcases tC with aF|aF|aF|aF<;>(rw[ao,aF]at hm;simp[e9]at hm)
     ·cases aF
   ·rw[tk (lW fun ag=>?_)]
    ·exact lL.2.2
    ·rcases ty.e _ ag with⟨ao,cl,aF,bA,_⟩|⟨ao,aF⟩|⟨ao,⟨j,aF⟩,_⟩|⟨ao,o,aF,_⟩
     ·simp only[aL.loc.injEq]at bA;exact cK d cl aN aF Ω
     ·rcases aF with aF|⟨cl,aF,bA,_⟩
      ·exact aF lL.2.2
      ·simp only[aL.loc.injEq]at bA;exact cK d cl aN aF Ω
     ·cases aF
     ·rw[lL.2.2]at aF;cases aF
  ·rw[tk (lW fun ag=>?_)]
   ·exact ax
   ·rw[e]at hm;rcases ty.e k ag with⟨ao,d,_,_,_,aF⟩|⟨ao,_⟩|⟨ao,_⟩|⟨ao,_⟩
    ·rw[aF]at ax;cases ax
    ·rw[ao]at hm;simp[e9]at hm
    ·rw[ao]at hm;simp[e9]at hm
    ·rw[ao]at hm;simp[e9]at hm
  ·refine tj (lW fun ag=>?_);rw[e]at hm;rcases ty.b k ag with⟨ao,_⟩|ao|⟨ao,_⟩|⟨ao,_⟩<;>(rw[ao]at hm;simp[e9]at hm)
  ·rw[e]at hm;refine⟨⟨lL.1,fun qV=>?_⟩,?_,?_⟩
   ·rcases ty.r _ qV with⟨cl,ao,aF⟩|⟨ao|ao,_⟩
    ·cases aF
    ·rw[ao]at hm;simp[e9]at hm
    ·rw[ao]at hm;simp[e9]at hm
   ·rw[tj (lW fun ag=>?_)]
    ·exact lL.2.1
    ·rcases ty.b _ ag with⟨ao,_⟩|ao|⟨ao,_⟩|⟨ao,_⟩<;>(rw[ao]at hm;simp[e9]at hm)
   ·rw[tk (lW fun ag=>?_)]
    ·exact lL.2.2
    ·rcases ty.e _ ag with⟨ao,_⟩|⟨ao,_⟩|⟨ao,_⟩|⟨ao,o,aF,_⟩
     ·rw[ao]at hm;simp[e9]at hm
     ·rw[ao]at hm;simp[e9]at hm
     ·rw[ao]at hm;simp[e9]at hm
     ·rw[lL.2.2]at aF;cases aF
  ·rw[tk (lW fun ag=>?_)]
   ·exact ax
   ·rw[e]at hm;rcases ty.e k ag with⟨ao,d,_,_,_,aF⟩|⟨ao,_⟩|⟨ao,_⟩|⟨ao,_⟩
    ·rw[aF]at ax;cases ax
    ·rw[ao]at hm;simp[e9]at hm
    ·rw[ao]at hm;simp[e9]at hm
    ·rw[ao]at hm;simp[e9]at hm
  ·rw[e]at hm;refine⟨?_,?_,fun gm=>⟨gm,fun qV=>?_⟩⟩;rotate_left 2
   ·rcases ty.r _ qV with⟨cl,_,aF⟩|⟨aF|aF,_⟩
    ·cases aF
    ·rw[aF]at hm;simp[e9]at hm
    ·rw[aF]at hm;simp[e9]at hm
   ·refine tj (lW fun ag=>?_);rcases ty.b _ ag with⟨ao,d,_,aF,_⟩|ao|⟨ao,_⟩|⟨ao,_⟩;rotate_left 3
    ·rw[ao]at hm;simp[e9]at hm
    ·cases aF
    ·rw[ao]at hm;simp[e9]at hm
    ·rw[ao]at hm;simp[e9]at hm
   ·refine tk (lW fun ag=>?_);rcases ty.e _ ag with⟨ao,d,_,aF,_⟩|⟨ao,_⟩|⟨ao,_⟩|⟨ao,_⟩
    ·cases aF
    ·rw[ao]at hm;simp[e9]at hm
    ·rw[ao]at hm;simp[e9]at hm
    ·rw[ao]at hm;simp[e9]at hm
 ·refine⟨fun i hi e=>?_,fun k ad=>lW fun ag=>?_,fun k ad=>lW fun ag=>?_⟩
  ·rw[zi.d]at hi;rw[ty.d]at e;exact cK i i hi e rfl
  ·rcases q1 k ad with⟨bB,d,a2,a3,_⟩|bB|⟨bB,⟨j,a2⟩,_⟩|⟨bB,_⟩<;>rcases ty.b k ag with⟨ck,cl,ca,gf,_⟩|ck|⟨ck,⟨dD,ca⟩,_⟩|⟨ck,⟨dD,ca⟩,_⟩;all_goals first|(rw[bB,ck]at hm;simp[e9]at hm;done)|skip
   ·rw[a3]at gf;simp only[aL.loc.injEq]at gf;exact cK d cl a2 ca Ω
   ·rw[a3]at ca;cases ca
   ·rw[a3]at ca;cases ca
   ·rw[a2]at gf;cases gf
  ·rcases hle k ad with⟨bB,d,a2,a3,_,a4⟩|⟨bB,a2⟩|⟨bB,⟨j,a2⟩,_⟩|⟨bB,hf,a2,_⟩<;>rcases ty.e k ag with⟨ck,cl,ca,gf,_,uD⟩|⟨ck,ca⟩|⟨ck,⟨dD,ca⟩,_⟩|⟨ck,gU,ca,_⟩
   ·rw[a3]at gf;simp only[aL.loc.injEq]at gf;exact cK d cl a2 ca Ω
   ·rw[bB,ck]at hm;simp[e9]at hm
   ·rw[a3]at ca;cases ca
   ·rw[a4]at ca;cases ca
   ·rcases a2 with a2|⟨d,a2,a3,_⟩
    ·exact a2 uD
    ·rw[a3]at gf;simp only[aL.loc.injEq]at gf;exact cK d cl a2 ca Ω
   ·rw[bB,ck]at hm;simp[e9]at hm
   ·rw[bB,ck]at hm;simp[e9]at hm
   ·rw[bB,ck]at hm;simp[e9]at hm
   ·rw[a2]at gf;cases gf
   ·rw[bB,ck]at hm;simp[e9]at hm
   ·rw[bB,ck]at hm;simp[e9]at hm
   ·rw[bB,ck]at hm;simp[e9]at hm
   ·rw[uD]at a2;cases a2
   ·rw[bB,ck]at hm;simp[e9]at hm
   ·rw[bB,ck]at hm;simp[e9]at hm
   ·rw[bB,ck]at hm;simp[e9]at hm
def xJ(C:fj)(A:dh)(a:Act)(w:World):Prop:= ∃st Z,lE st A/\(∀k,A.F k->fresh st.n st.o k)/\cZ C st a w Z
theorem LM{st:bm}{A:dh}(h:lE st A)(d:Nat)(p:ai):lE {st with t:=put d p st.t} (A.do ⟨some d,p,[],[],none⟩):=by
 refine⟨fun i=>?_,fun k=>?_,fun k=>?_⟩
 ·simp only[dh.do,pH,dC,h.t]
 ·simpa[dh.do,iD,look]using h.b k
 ·simpa[dh.do,iD,look]using h.e k
theorem UP{st:bm}{A:dh}(h:lE st A)(d:Nat)(p:ai)(o':List aL)(rm:Option aL):lE {st with t:=put d p st.t,o:=o'} (A.do ⟨some d,p,[],[],rm⟩):=by have:=LM h d p;exact⟨this.t,this.b,this.e⟩
theorem YB{α:Type}{β:Type}:∀l:List (aL×α),cb ([]:List (aL×β)) l=l
 |[]=>rfl
 |(k,x)::r=>by simp[cb,look,YB r]
theorem AR{st:bm}{A:dh}(h:lE st A)(d:Nat)(p:ai)(κ:aL)(cs:List ai)(n':Nat)(o':List aL)(rm:Option aL):lE ⟨put d p st.t,cA κ cs st.b,st.e,n',o'⟩ (A.do ⟨some d,p,[(κ,cs)],[],rm⟩):=by
 refine⟨fun i=>?_,fun k=>?_,fun k=>?_⟩
 ·simp only[dh.do,pH,dC,h.t]
 ·simp only[dh.do,iD,look,ja,h.b];by_cases e:κ=k<;>simp[e]
 ·simpa[dh.do,iD,look]using h.e k
theorem GR{st:bm}{A:dh}(h:lE st A)(κ:aL)(cs:List ai)(p:ai):lE {st with b:=cA κ cs st.b} (A.do ⟨none,p,[(κ,cs)],[],none⟩):=by
 refine⟨fun i=>?_,fun k=>?_,fun k=>?_⟩
 ·simpa[dh.do]using h.t i
 ·simp only[dh.do,iD,look,ja,h.b];by_cases e:κ=k<;>simp[e]
 ·simpa[dh.do,iD,look]using h.e k
theorem wV{st:bm}{A:dh}(h:lE st A)(d:Nat)(p:ai)(κ:aL)(o:fN)(n':Nat)(o':List aL)(rm:Option aL):lE ⟨put d p st.t,st.b,cA κ o st.e,n',o'⟩ (A.do ⟨some d,p,[],[(κ,o)],rm⟩):=by
 refine⟨fun i=>?_,fun k=>?_,fun k=>?_⟩
 ·simp only[dh.do,pH,dC,h.t]
 ·simpa[dh.do,iD,look]using h.b k
 ·simp only[dh.do,iD,look,ja,h.e];by_cases e:κ=k<;>simp[e]
theorem UO{st:bm}{A:dh}(h:lE st A)(κ:aL)(o:fN)(p:ai):lE {st with e:=cA κ o st.e} (A.do ⟨none,p,[],[(κ,o)],none⟩):=by
 refine⟨fun i=>?_,fun k=>?_,fun k=>?_⟩
 ·simpa[dh.do]using h.t i
 ·simpa[dh.do,iD,look]using h.b k
 ·simp only[dh.do,iD,look,ja];by_cases e:κ=k<;>simp[e,h.e]
theorem L3{α:Type}{k:aL}:∀{l:List (aL×α)},k∈l.map (·.1)->(look k l).isSome
 |[],h=>by simp at h
 |(i,x)::r,h=>by
  simp only[look];split
  ·rfl
  ·rename_i e;simp only[hk,fD]at h;rcases h with h|h
   ·exact absurd h.symm e
   ·exact L3 h
theorem wa{n:Nat}{o:List aL}{κ:aL}:∀j,fresh n (κ::o) j->fresh n o j/\j≠κ:=by intro j af;simp only[fresh,fD,not_or]at af⊢;exact⟨⟨af.1,af.2.2⟩,af.2.1⟩
theorem adm{n:Nat}{o:List aL}{κ j:aL}(h:fresh n o j)(af:some κ≠some j):fresh n (κ::o) j:=by simp only[fresh,fD,not_or]at h⊢;exact⟨h.1,fun e=>af (by rw[e]),h.2⟩
theorem OC{P:cL}{bC:List (Nat×dz)}(aM:fI P bC=true){C:fj}{q:Bool}{n0:Nat}{i:ee}{o:Oper}(ax:vv C.N bC i o=true){A:dh}{x:kY}(ae:ep P q n0 i A x){a:Act}{w:World}(aJ:xJ C A a w)
  {K:Act->World->Prop} {Q:Exit->Act->World->Prop} (c4:∀bj w',xJ C (A.do x) bj w'->K bj w'):o.wp P a w K Q:=by
 obtain⟨st,Z,av,gm,aJ⟩:=aJ;have qY:∀(t:List (Nat×ai)) (b:List (aL×List ai)) (e:List (aL×fN)) (d:Option Nat) (p:ai) (bw:List (aL×List ai)) (ew:List (aL×fN)),∀k,(A.do ⟨d,p,bw,ew,none⟩).F k->fresh st.n st.o k:=fun t b e d p bw ew k ad=>gm k ad.1;have ny:∀(d:Option Nat) (p:ai) (bw:List (aL×List ai)) (ew:List (aL×fN)) (κ:aL),∀k,(A.do ⟨d,p,bw,ew,some κ⟩).F k->fresh st.n (κ::st.o) k:=fun d p bw ew κ k ad=>adm (gm k ad.1) ad.2;cases i with
 |s i=>
  have h1:Ee C.N bC i o=true:=by simpa only[vv]using ax
  cases i with
  |v d i=>simp only[ep]at ae;obtain⟨c,p,J,U,_,rfl⟩:=ae;rw[<-XY av]at J;refine j2 (κ:= .loc 0) (n':=0) (o₁:=[]) aM aJ h1 (fun h=>by simp[eh.makes]at h) (fun h=>by simp[eh.makes]at h) (st':={st with t:=put d p st.t}) (by simp only[eD,J]) U fun bj w' bn b4=>c4 _ _ ⟨_,bn,LM av d p,fun k ad=>gm k ad.1,b4⟩
  |box d key v=>
   cases key with
   |some m=>simp only[ep]at ae
   |none=>simp only[ep]at ae;obtain⟨⟨J,_⟩,U,rfl⟩:=ae;rw[<-iR av]at U;refine j2 (κ:= .loc (n0+d)) (n':=st.n) (o₁:= .loc (n0+d)::st.o) aM aJ h1 (fun _=>gm _ J) (fun _=>wa) (st':=⟨put d (.ptr (.loc (n0+d)) 0) st.t,cA (.loc (n0+d)) (cells (ct st.t v)) st.b,st.e,st.n,.loc (n0+d)::st.o⟩) (by simp only[eD]) U fun bj w' bn b4=>c4 _ _ ⟨_,bn,?_,ny _ _ _ _ _,b4⟩;rw[iR av];exact AR av d _ _ _ _ _ _
  |alloc d key z=>
   cases key with
   |some m=>simp only[ep]at ae
   |none=>simp only[ep]at ae;obtain⟨⟨J,_⟩,rfl⟩:=ae;refine j2 (κ:= .loc (n0+d)) (n':=st.n) (o₁:= .loc (n0+d)::st.o) aM aJ h1 (fun _=>gm _ J) (fun _=>wa) (st':=⟨put d (.ptr (.loc (n0+d)) 0) st.t,cA (.loc (n0+d)) (cells z) st.b,st.e,st.n,.loc (n0+d)::st.o⟩) (by simp only[eD]) trivial fun bj w' bn b4=>c4 _ _ ⟨_,bn,AR av d _ _ _ _ _ _,ny _ _ _ _ _,b4⟩
  |store sz u v=>simp only[ep]at ae;obtain⟨k,off,cs,J,U,ar,rfl⟩:=ae;rw[<-iR av]at J ar;rw[<-av.b]at U;refine j2 (κ:= .loc 0) (n':=0) (o₁:=[]) aM aJ h1 (fun h=>by simp[eh.makes]at h) (fun h=>by simp[eh.makes]at h) (st':={st with b:=cA k (ov cs off (cells (ct st.t v))) st.b}) (by simp only[eD,J,U]) ar fun bj w' bn b4=>c4 _ _ ⟨{st with b:=cA k (ov cs off (cells (ct st.t v))) st.b},bn,by rw[iR av];exact GR av k _ _,fun k ad=>gm k ad.1,b4⟩
  |bsl d sz el xs=>simp only[ep]at ae;obtain⟨⟨J,_⟩,U,rfl⟩:=ae;rw[<-uL av]at U;refine j2 (κ:= .loc (n0+d)) (n':=st.n) (o₁:= .loc (n0+d)::st.o) aM aJ h1 (fun _=>gm _ J) (fun _=>wa) (st':=⟨put d (.slice sz (.own (.loc (n0+d))) (xs.map (ct st.t))) st.t,st.b,cA (.loc (n0+d)) ⟨xs.length,el,sz,none⟩ st.e,st.n,.loc (n0+d)::st.o⟩) (by simp only[eD]) U fun bj w' bn b4=>c4 _ _ ⟨_,bn,?_,ny _ _ _ _ _,b4⟩;rw[uL av];exact wV av d _ _ _ _ _ _
  |app d sz el u v=>
   simp only[ep]at ae;obtain⟨tag,xs,k8,ys,J,U,ae⟩:=ae;rw[<-iR av]at J U;rcases ae with⟨k,ow,rfl,ar,a8,rfl⟩|⟨rfl,ar,⟨a8,_⟩,rfl⟩
   ·rw[<-av.e]at ar;refine j2 (κ:= .loc 0) (n':=0) (o₁:=[]) aM aJ h1 (fun h=>by simp[eh.makes,J]at h) (fun h=>by simp[eh.makes,J]at h) (st':=⟨put d (.slice sz (.own k) (xs++ys)) st.t,st.b,cA k ⟨xs.length+ys.length,el,sz,none⟩ st.e,st.n,st.o⟩) (by simp only[eD,J,U,ar,and_self,if_true]) a8.2 fun bj w' bn b4=>c4 _ _ ⟨_,bn,wV av d _ _ _ _ _ _,fun k ad=>gm k ad.1,b4⟩
   ·refine j2 (κ:= .loc (n0+d)) (n':=st.n) (o₁:= .loc (n0+d)::st.o) aM aJ h1 (fun _=>gm _ a8) (fun _=>wa) (st':=⟨put d (.slice sz (.own (.loc (n0+d))) ys) st.t,st.b,cA (.loc (n0+d)) ⟨ys.length,el,sz,none⟩ st.e,st.n,.loc (n0+d)::st.o⟩) (by simp only[eD,J,U,and_self,if_true]) ar fun bj w' bn b4=>c4 _ _ ⟨_,bn,wV av d _ _ _ _ _ _,ny _ _ _ _ _,b4⟩
  |bslm d key sz el xs=>simp only[ep]at ae
  |mks d key sz el z x=>simp only[ep]at ae
  |appm d key sz el u v=>simp only[ep]at ae;obtain⟨k,n,xs,k8,ys,J,U,ar,a8,rfl⟩:=ae;rw[<-iR av]at J U;rw[<-av.e]at ar;refine j2 (κ:= .loc 0) (n':=0) (o₁:=[]) aM aJ h1 (fun h=>by simp[eh.makes,J]at h) (fun h=>by simp[eh.makes,J]at h) (st':=⟨put d (.row sz k (xs.length+ys.length)) st.t,st.b,cA k ⟨xs.length+ys.length,el,sz,some (xs++ys)⟩ st.e,st.n,st.o⟩) (by simp only[eD,tc,J,U,ar,and_self,if_true]) a8 fun bj w' bn b4=>c4 _ _ ⟨_,bn,wV av d _ _ _ _ _ _,fun k ad=>gm k ad.1,b4⟩
  |storeE sz u v=>simp only[ep]at ae;obtain⟨k,n,i,f,el,dK,xs,q,J,U,ar,a8,rfl⟩:=ae;rw[<-iR av]at J a8;rw[<-av.e]at U;refine j2 (κ:= .loc 0) (n':=0) (o₁:=[]) aM aJ h1 (fun h=>by simp[eh.makes]at h) (fun h=>by simp[eh.makes]at h) (st':={st with e:=cA k ⟨n,el,dK,some (xs.set i (pY q f (cells (ct st.t v))))⟩ st.e}) (by simp only[eD,rl,J,U,ar,and_self,if_true]) a8 fun bj w' bn b4=>c4 _ _ ⟨{st with e:=cA k ⟨n,el,dK,some (xs.set i (pY q f (cells (ct st.t v))))⟩ st.e},bn,by rw[iR av];exact UO av k _ _,fun k ad=>gm k ad.1,b4⟩
  |mkmap d key=>
   cases key with
   |none=>simp only[ep]at ae
   |some m=>simp only[ep]at ae;obtain⟨⟨J,_⟩,rfl⟩:=ae;exact j2 (κ:= .obj m) (n':=st.n) (o₁:= .obj m::st.o) aM aJ h1 (fun _=>gm _ J) (fun _=>wa) (st':=⟨put d (.gmap (.obj m)) st.t,cA (.obj m) [.hdm 0 []] st.b,st.e,st.n,.obj m::st.o⟩) (by simp only[eD]) trivial fun bj w' bn b4=>c4 _ _ ⟨_,bn,AR av d _ _ _ _ _ _,ny _ _ _ _ _,b4⟩
  |mput cg u k v=>simp only[ep]at ae;obtain⟨m,cs,cs',J,U,ar,rfl⟩:=ae;rw[<-iR av]at J;rw[<-iR av,<-iR av]at ar;rw[<-av.b]at U;exact j2 (κ:= .loc 0) (n':=0) (o₁:=[]) aM aJ h1 (fun h=>by simp[eh.makes]at h) (fun h=>by simp[eh.makes]at h) (st':={st with b:=cA m cs' st.b}) (by simp only[eD,J,U,ar]) trivial fun bj w' bn b4=>c4 _ _ ⟨{st with b:=cA m cs' st.b},bn,GR av m _ _,fun k ad=>gm k ad.1,b4⟩
  |range d key x=>simp only[ep]at ae
 |next d x=>simp only[ep]at ae
 |call d f xs=>
  simp only[ep]at ae;obtain⟨n,dn,J,ae⟩:=ae;rw[<-iR av]at J;rcases ae with⟨⟨s,ah,r,rm,bT,cx,dy,kp,k1,n4,Ca,rfl⟩,_⟩|⟨cP,r,rfl,bT,cx,dy,rfl⟩;rotate_left
  ·rw[<-uL av]at cx dy;simp only[vv]at ax;split at ax
   ·rename_i rS args BD nE;simp only[cE,dL]at ax;obtain⟨⟨⟨ao,aF⟩,bA⟩,dr⟩:=ax;have mh:=eg aJ bA;rw[J]at mh;refine Rg aJ nE ao aF mh (D9 aJ dr) (K:=fun st'=>st'={st with t:=put cP r st.t,o:= .loc (n0+cP)::st.o}) ⟨⟨[],[]⟩,_,some (n0+cP),st.n,fun _=>.loc (n0+cP)::st.o,fun k cs ad=>by simp[look]at ad,fun k cs ad=>by simp[look]at ad,⟨fun _=>rfl,fun _=>rfl⟩,j9 (fun _ h=>h.elim) _ cx,dy,fun m hm=>?_,fun k eM ah bF ad=>?_,?_⟩ ?_
    ·cases hm;exact gm _ bT.1
    ·obtain⟨_,rfl⟩:=bF;have:=wa k ad;exact⟨by simpa[c2]using this.1,fun m hm=>by cases hm;exact this.2⟩
    ·rintro eM o5 ⟨rfl,rfl⟩;refine⟨⟨fun m hm=>by simp[look]at hm,fun m hm=>by simp[look]at hm⟩,?_⟩;simp[after,YB,eR]
    ·rintro st' bj w' bn rfl b4;exact c4 _ _ ⟨_,bn,UP av cP r _ _,ny _ _ _ _ _,b4⟩
   ·cases ax
  rw[<-uL av]at n4 Ca;simp only[vv]at ax;split at ax
  ·rename_i rS args BD nE;simp only[cE,dL]at ax;obtain⟨⟨⟨ao,aF⟩,bA⟩,dr⟩:=ax;have mh:=eg aJ bA;rw[J]at mh;obtain⟨aU,bp,b1,fT,df⟩:=k1;refine Rf aJ nE ao aF mh (D9 aJ dr) (K:=fun st'=>st'=after st s ah d r) (.inl ⟨s,_,fun k cs ad=>⟨by rw[av.b];exact(bT k cs ad).1,.inl (by simp[ad]),(bT k cs ad).2⟩,fun k o' ad=>⟨by rw[av.e];exact(cx k o' ad).1,.inr (by simp[ad]),(cx k o' ad).2⟩,dy,n4,Ca,?_⟩) ?_
   ·rintro eM o5 ⟨rfl,rfl⟩;refine⟨⟨fun m hm=>?_,fun m hm=>?_⟩,rfl⟩
    ·rcases aU _ hm with h|h
     ·exact .inl h
     ·exact .inr (gm _ (df _ h).2.1).2
    ·rcases bp _ hm with h|h
     ·exact .inl h
     ·exact .inr (gm _ (df _ h).2.1).2
   ·rintro st' bj w' bn rfl b4;refine c4 _ _ ⟨_,bn,⟨fun i=>?_,fun k=>?_,fun k=>?_⟩,fun k ad=>?_,b4⟩
    ·simp only[after,dh.do];cases d with
     |none=>simpa[eR]using av.t i
     |some d=>simp only[eR,pH,dC,av.t]
    ·simp only[after,dh.do,iD,yH,vn];by_cases ag:(look k s.b).isSome
     ·have:=b1 k ag;obtain⟨y,aH⟩:=fE.1 this;simp[ag,aH]
     ·cases ay:look k ah.b with
      |none=>simp only[ag,av.b];cases A.b k<;>simp
      |some y=>
       rcases aU k (by simp[ay])with h|h
       ·exact absurd h ag
       ·have:=df k h;simp[ag,av.b,this]
    ·simp only[after,dh.do,iD,yH,vn];by_cases ag:(look k s.e).isSome
     ·have:=fT k ag;obtain⟨y,aH⟩:=fE.1 this;simp[ag,aH]
     ·cases ay:look k ah.e with
      |none=>simp only[ag,av.e];cases A.e k<;>simp
      |some y=>
       rcases bp k (by simp[ay])with h|h
       ·exact absurd h ag
       ·have:=df k h;simp[ag,av.e,this]
    ·have KE:=gm k ad.1;have oT:=aJ.lookNone KE;simp only[after];refine⟨KE.1,fun hB=>?_⟩;rcases ih.1 hB with hB|hB
     ·exact KE.2 hB
     ·rcases ih.1 hB with hB|hB
      ·rcases aU k (L3 hB)with h|h
       ·obtain⟨y,aH⟩:=fE.1 h;have:=(bT k y aH).1;rw[<-av.b,oT.1]at this;cases this
       ·exact ad.2 h
      ·rcases bp k (L3 hB)with h|h
       ·obtain⟨y,aH⟩:=fE.1 h;have:=(cx k y aH).1;rw[<-av.e,oT.2]at this;cases this
       ·exact ad.2 h
  ·cases ax
theorem YU{P:cL}{bC:List (Nat×dz)}(aM:fI P bC=true){C:fj}{q:Bool}{n0:Nat}{ops:Array Oper}{g:c9}{o:Oper}{j:Nat}(af:ops[j]? =some o)(ax:Cx C.N bC ops.toList g o=true){A:dh}{x:kY}(ae:kZ P q n0 g A x){a:Act}{w:World}(aJ:xJ C A a w)
  {K:Act->World->Prop} {Q:Exit->Act->World->Prop} (c4:∀bj w',xJ C (A.do x) bj w'->K bj w'):wpOp P ops Q j K a w:=by
 unfold wpOp;rw[af];simp only;simp only[Cx,cE]at ax;obtain⟨qZ,qg⟩:=ax;unfold kZ at ae;cases CR:g.g with
 |none=>
  cases dY:o.guard with
  |some x=>simp[dY,CR]at qZ
  |none=>
   have hw:pd o (yielded ops a.tmps)=true:=by simp[pd,dY]
   rw[if_pos hw];simp only[CR]at ae;exact .inl (OC aM qg ae aJ c4)
 |some zh=>
  obtain⟨s,want⟩:=zh;cases dY:o.guard with
  |none=>simp[dY,CR]at qZ
  |some anw=>
   obtain⟨apO,b0⟩:=anw;simp only[dY,CR,cE,dL,e6]at qZ;obtain⟨⟨⟨⟨rfl,U⟩,ar⟩,a8⟩,b8⟩:=qZ;obtain⟨st,Z,av,gm,dH⟩:=id aJ;obtain⟨kW,pc⟩:=YK dH U ar;simp only[CR]at ae;have TL:∀(h:x=ly g.i.dst),K (a.put o.dst undef) w:=by
    rintro rfl;rw[a8];refine c4 _ _ ⟨_,Z,?_,fun k ad=>?_,dH.put b8 (p:= .tuple []) (by simp[bd,cX,undef])⟩
    ·refine⟨fun i=>?_,fun k=>?_,fun k=>?_⟩
     ·simp only[dh.do,ly];cases g.i.dst with
      |none=>simpa[eR]using av.t i
      |some d=>simp only[eR,pH,dC,av.t]
     ·simpa[dh.do,iD,look,ly]using av.b k
     ·simpa[dh.do,iD,look,ly]using av.e k
    ·exact gm k ad.1
   split at ae
   ·rename_i b ab;have aH:=kW b (by rw[av.t];exact ab);rcases ae with⟨rfl,ae⟩|⟨rfl,ae⟩
    ·have hw:pd o (yielded ops a.tmps)=true:=by simp[pd,dY,aH]
     rw[if_pos hw];exact .inl (OC aM qg ae aJ c4)
    ·have hw:¬(pd o (yielded ops a.tmps)=true):=by simp[pd,dY,aH]
     rw[if_neg hw];exact TL ae
   ·rename_i ab;have aH:=pc (by rw[av.t];exact ab);have hw:¬(pd o (yielded ops a.tmps)=true):=by simp[pd,dY,aH]
    rw[if_neg hw];exact TL ae
   ·exact ae.elim
def vX(P:cL)(q:Bool)(n0:Nat)(K:dh->Prop):List (Nat×c9)->dh->Prop
 |[],A=>K A
 |(_,g)::r,A=> ∃x,kZ P q n0 g A x/\vX P q n0 K r (A.do x)
theorem O9{P:cL}{q:Bool}{n0:Nat}{K:dh->Prop}{i:Nat}{g:c9}:∀(oI po:List (Nat×c9)) (A:dh),(∀x∈oI,zY x.2 g=true)->vX P q n0 K (oI++(i,g)::po) A->∃x,kZ P q n0 g A x/\vX P q n0 K (oI++po) (A.do x)
 |[],po,A,_,h=>h
 |(j,SE)::oI,po,A,aq,h=>by simp only[bO,vX]at h;obtain⟨y,aH,h⟩:=h;obtain⟨x,ae,h⟩:=O9 oI po (A.do y) (fun z bf=>aq z (oE _ bf)) h;obtain⟨s1,s2,s3⟩:=swap (aq _ (List.mem_cons_self ..)) aH ae;refine⟨x,s1,y,s2,?_⟩;rw[<-dh.do_comm A s3];exact h
def rem(listed:Array Bool):Nat->List c9->List (Nat×c9)
 |_,[]=>[]
 |k,g::r=>if listed.getD k false then rem listed (k+1) r else(k,g)::rem listed (k+1) r
theorem W4{l a1:Array Bool}:∀(gs:List c9) (k:Nat),(∀j,k<=j->l.getD j false=a1.getD j false)->rem l k gs=rem a1 k gs
 |[],_,_=>rfl
 |g::r,k,h=>by simp only[rem,h k (eX _),W4 r (k+1) fun j af=>h j Ω]
theorem FP{l:Array Bool}{i j:Nat}(h:i<l.size):(l.setIfInBounds i true).getD j false=if i=j then true else l.getD j false:=by
 simp only[Array.getD_eq_getD_getElem?];by_cases e:i=j
 ·subst e;simp[h]
 ·simp[e]
theorem M8{l:Array Bool}{i:Nat}(hi:i<l.size)(ay:l.getD i false=false):∀(gs:List c9) (k:Nat),k<=i->i<k+gs.length->∃oI po g,gs[i-k]? =some g/\rem l k gs=oI++(i,g)::po/\rem (l.setIfInBounds i true) k gs=oI++po/\
  ∀x∈oI,gs[x.1-k]? =some x.2/\k<=x.1/\x.1<i/\l.getD x.1 false=false
 |[],k,J,U=>by simp at U;omega
 |g::r,k,J,U=>by
  by_cases e:k=i
  ·subst e;refine⟨[],rem l (k+1) r,g,Ψ,by simp[rem,ay],?_,fun x ae=>by simp at ae⟩;simp only[rem,FP hi,if_true,bS];exact W4 r (k+1) fun j af=>by rw[FP hi,if_neg Ω]
  ·obtain⟨oI,po,ff,ao,aF,bA,dr⟩:=M8 hi ay r (k+1) Ω (by simp at U;omega);have wq:i-k=(i-(k+1))+1:=Ω
   have hR:(l.setIfInBounds i true).getD k false=l.getD k false:=by rw[FP hi,if_neg Ω]
   by_cases ad:l.getD k false=true
   ·refine⟨oI,po,ff,by rw[wq];simpa using ao,by simp only[rem,ad,if_true,aF],by simp only[rem,hR,ad,if_true,bA],fun x ae=>?_⟩;obtain⟨f1,f2,f3,f4⟩:=dr x ae;refine⟨?_,Ω,f3,f4⟩;have:x.1-k=(x.1-(k+1))+1:=Ω
    rw[this];simpa using f1
   ·have ad:l.getD k false=false:=by simpa using ad
    refine⟨(k,g)::oI,po,ff,by rw[wq];simpa using ao,by simp[rem,ad,aF],by simp[rem,hR,ad,bA],fun x ae=>?_⟩;rcases fD.1 ae with rfl|ae
    ·exact⟨Ψ,eX _,by simp;omega,ad⟩
    ·obtain⟨f1,f2,f3,f4⟩:=dr x ae;refine⟨?_,Ω,f3,f4⟩;have:x.1-k=(x.1-(k+1))+1:=Ω
     rw[this];simpa using f1
def vo(acc:List Nat):List Edge->Nat
 |[]=>0
 |e::r=>if Region.binds .any e then(2 ^ e.on)|||(acc.getD e.on 0)|||vo acc r else vo acc r
def ss(acc:List Nat):List Oper->List Nat
 |[]=>acc
 |o::os=>ss (acc++[vo acc o.after.toList]) os
def Eb(m:Nat)(h:c9):Nat->List c9->Bool
 |_,[]=>true
 |i,g::r=>(m.testBit i||zY g h)&&Eb m h (i+1) r
def DV:List c9->List c9->List Nat->Bool
 |_,[],_=>true
 |pre,h::r,m::ms=>Eb m h 0 pre&&DV (pre++[h]) r ms
 |_,_,[]=>false
def Ch:Nat->List Oper->Bool
 |_,[]=>true
 |k,o::os=>o.after.toList.all (fun e=> !Region.binds .any e||decide (e.on<k))&&Ch (k+1) os
def B4(gs:List c9)(ops:List Oper):Bool:=Ch 0 ops&&DV [] gs (ss [] ops)
theorem LW{acc:List Nat}{j:Nat}:∀{es:List Edge},(vo acc es).testBit j=true->∃e∈es,Region.binds .any e=true/\(j=e.on\/(acc.getD e.on 0).testBit j=true)
 |[],h=>by simp[vo]at h
 |e::r,h=>by
  simp only[vo]at h;split at h
  ·rename_i ab;simp only[Nat.testBit_or,l4]at h;rcases h with(h|h)|h
   ·refine⟨e,Ψ,ab,.inl ?_⟩;rw[Nat.testBit_two_pow]at h;have b4:e.on=j:=by simpa using h
    exact b4.symm
   ·exact⟨e,Ψ,ab,.inr h⟩
   ·obtain⟨fo,J,U⟩:=LW h;exact⟨fo,by simp[J],U⟩
  ·obtain⟨fo,J,U⟩:=LW h;exact⟨fo,by simp[J],U⟩
theorem LX:∀(os:List Oper) (acc:List Nat) (k:Nat),k<acc.length->(ss acc os)[k]? =acc[k]?
 |[],acc,k,_=>rfl
 |o::os,acc,k,h=>by simp only[ss];rw[LX os _ k d7,List.getElem?_append_left h]
theorem UY:∀(os:List Oper) (acc:List Nat) (k:Nat) (o:Oper),os[k]? =some o->∃uB,(ss acc os)[acc.length+k]? =some (vo uB o.after.toList)/\uB.length=acc.length+k/\∀i,i<uB.length->uB[i]? =(ss acc os)[i]?
 |[],acc,k,o,h=>by simp at h
 |o'::os,acc,0,o,h=>by
  simp only[List.getElem?_cons_zero,dC]at h;subst h;refine⟨acc,?_,Ψ,fun i hi=>?_⟩
  ·simp only[ss,Nat.add_zero];rw[LX os _ _ Ψ];simp
  ·simp only[ss];rw[LX os _ i d7,List.getElem?_append_left hi]
 |o'::os,acc,k+1,o,h=>by simp only[List.getElem?_cons_succ]at h;obtain⟨uB,J,U,ar⟩:=UY os (acc++[vo acc o'.after.toList]) k o h;refine⟨uB,?_,by rw[U];simp;omega,fun i hi=>by rw[ar i hi];rfl⟩;simp only[ss];rw[show acc.length+(k+1)=(acc++[vo acc o'.after.toList]).length+k from by simp;omega];exact J
def Oz(ops:Array Oper)(listed:Array Bool):Prop:= ∀k o,ops[k]? =some o->listed.getD k false=true->∀e∈o.after.toList,Region.binds .any e=true->listed.getD e.on false=true
theorem ahf{ops:Array Oper}{listed:Array Bool}(aN:Oz ops listed):∀(k:Nat) (o:Oper),ops[k]? =some o->(∀e∈o.after.toList,Region.binds .any e=true->listed.getD e.on false=true)->∀j,((ss [] ops.toList).getD k 0).testBit j=true->listed.getD j false=true:=by
 intro k;induction k using rF with
 |_ k bU=>
  intro o ax av j af;obtain⟨uB,J,U,ar⟩:=UY ops.toList [] k o (by simpa using ax);simp only[List.length_nil,Nat.zero_add]at J U;rw[List.getD_eq_getElem?_getD,J]at af;obtain⟨e,he,ab,cu⟩:=LW af;rcases cu with rfl|cu
  ·exact av e he ab
  ·by_cases bs:e.on<uB.length
   ·have hm:uB.getD e.on 0=(ss [] ops.toList).getD e.on 0:=by rw[List.getD_eq_getElem?_getD,ar _ bs,List.getD_eq_getElem?_getD]
    have ad:k<ops.size:=(Array.getElem?_eq_some_iff.1 ax).1;have h1:ops[e.on]? =some ops[e.on]:=Array.getElem?_eq_getElem Ω;rw[hm]at cu;exact bU e.on Ω _ h1 (fun fo wk fZ=>aN e.on _ h1 (av e he ab) fo wk fZ) j cu
   ·rw[List.getD_eq_getElem?_getD,qF Ω]at cu;simp at cu
theorem Xk{m:Nat}{h:c9}:∀{gs:List c9} {i0:Nat},Eb m h i0 gs=true->∀i g,gs[i]? =some g->m.testBit (i0+i)=true\/zY g h=true
 |[],i0,_,i,g,aX=>by simp at aX
 |ff::r,i0,aJ,0,g,aX=>by simp only[Eb,cE,l4]at aJ;simp only[List.getElem?_cons_zero,dC]at aX;subst aX;simpa using aJ.1
 |ff::r,i0,aJ,i+1,g,aX=>by simp only[Eb,cE]at aJ;have:=Xk aJ.2 i g (by simpa using aX);rwa[show i0+1+i=i0+(i+1)from by omega]at this
theorem VZ:∀{gs pre:List c9} {ms:List Nat},DV pre gs ms=true->∀j h,gs[j]? =some h->∀i g,i<pre.length+j->(pre++gs)[i]? =some g->(ms.getD j 0).testBit i=true\/zY g h=true
 |[],pre,ms,_,j,h,af,_,_,_,_=>by simp at af
 |b4::r,pre,[],bK,j,h,af,_,_,_,_=>by simp[DV]at bK
 |b4::r,pre,m::ms,bK,j,h,af,i,g,hi,aX=>by
  simp only[DV,cE]at bK;cases j with
  |zero=>simp only[List.getElem?_cons_zero,dC]at af;subst af;rw[List.getElem?_append_left Ω]at aX;simpa using Xk bK.1 i g aX
  |succ j=>have:=VZ bK.2 j h (by simpa using af) i g d7 (by simpa using aX);simpa using this
theorem RC:∀{os:List Oper} {k:Nat},Ch k os=true->∀i o,os[i]? =some o->∀e∈o.after.toList,Region.binds .any e=true->e.on<k+i
 |[],k,_,i,o,ax,_,_,_=>by simp at ax
 |o'::os,k,h,0,o,ax,e,he,ab=>by simp only[Ch,cE,fM]at h;simp only[List.getElem?_cons_zero,dC]at ax;subst ax;have:=h.1 e he;simpa[ab]using this
 |o'::os,k,h,i+1,o,ax,e,he,ab=>by simp only[Ch,cE]at h;have:=RC h.2 i o (by simpa using ax) e he ab;omega
theorem SG{N:Nat}{bC:List (Nat×dz)}{ops:List Oper}:∀{gs:List c9} {os:List Oper},kF N bC ops gs os=true->∀(i:Nat) (g:c9),gs[i]? =some g->∃o,os[i]? =some o/\Cx N bC ops g o=true
 |[],[],_,i,g,h=>by simp at h
 |[],_::_,h,_,_,_=>by simp[kF]at h
 |_::_,[],h,_,_,_=>by simp[kF]at h
 |ff::gs,o::os,h,0,g,aX=>by simp only[kF,cE]at h;simp only[List.getElem?_cons_zero,dC]at aX;subst aX;exact⟨o,Ψ,h.1⟩
 |ff::gs,o::os,h,i+1,g,aX=>by simp only[kF,cE]at h;obtain⟨o',J,U⟩:=SG h.2 i g (by simpa using aX);exact⟨o',by simpa using J,U⟩
theorem Kk{N:Nat}{bC:List (Nat×dz)}{ops:List Oper}:∀{gs:List c9} {os:List Oper},kF N bC ops gs os=true->gs.length=os.length
 |[],[],_=>rfl
 |[],_::_,h=>by simp[kF]at h
 |_::_,[],h=>by simp[kF]at h
 |g::gs,o::os,h=>by simp only[kF,cE]at h;simp[Kk h.2]
theorem W5{l:Array Bool}:∀(gs:List c9) (k:Nat),rem l k gs=[]\/ ∃i g,i<gs.length/\gs[i]? =some g/\l.getD (k+i) false=false/\∀j,j<i->l.getD (k+j) false=true
 |[],_=>.inl rfl
 |g::r,k=>by
  by_cases h:l.getD k false=true
  ·rcases W5 (l:=l) r (k+1)with J|⟨i,ff,J,U,ar,a8⟩
   ·left;simp only[rem,h,if_true,J]
   ·refine .inr ⟨i+1,ff,by simp;omega,by simpa using U,by rw[show k+(i+1)=k+1+i from by omega];exact ar,fun j af=>?_⟩;cases j with
    |zero=>simpa using h
    |succ j=>rw[show k+(j+1)=k+1+j from by omega];exact a8 j Ω
  ·exact .inr ⟨0,g,Ψ,Ψ,by simpa using h,fun j af=>Ω⟩
theorem Zo{P:cL}{bC:List (Nat×dz)}(aM:fI P bC=true){C:fj}{q:Bool}{n0:Nat}{ops:Array Oper}{gs:List c9}(j7:kF C.N bC ops.toList gs ops.toList=true)(FY:B4 gs ops.toList=true){K:dh->Prop}{Q:Exit->Act->World->Prop}
  (ia:∀A a w,K A->xJ C A a w->Q .normal a w):∀(fuel:Nat) (listed:Array Bool) (A:dh) (a:Act) (w:World),listed.size=ops.size->Oz ops listed->(rem listed 0 gs).length<=fuel->vX P q n0 K (rem listed 0 gs) A->xJ C A a w->wpAny P .any ops Q fuel listed a w:=by
 simp only[B4,cE]at FY;obtain⟨Ku,afC⟩:=FY;have hlen:gs.length=ops.size:=by simpa using Kk j7
 have S7:∀(listed:Array Bool) (A:dh) (a:Act) (w:World),listed.size=ops.size->vX P q n0 K (rem listed 0 gs) A->xJ C A a w->Region.ready .any ops listed=[]->Q .normal a w:=by
  intro listed A a w dS tu aJ Gp;rcases W5 (l:=listed) gs 0 with h|⟨i,g,J,U,ar,a8⟩
  ·rw[h]at tu;exact ia A a w tu aJ
  ·exfalso;have hi:i<ops.size:=Ω
   have hB:i∈Region.ready .any ops listed:=by
    unfold Region.ready;simp only[lC,List.mem_range,cE,rC];refine⟨hi,?_,?_⟩
    ·rw[Nat.zero_add]at ar;simp only[Array.getD_eq_getD_getElem?]at ar⊢;rw[Array.getElem?_eq_getElem Ω]at ar⊢;simpa using ar
    ·rw[Array.getElem?_eq_getElem hi];simp only[oH,jL];rw[<-Array.all_toList,fM];intro e he;by_cases ab:Region.binds .any e=true
     ·have bs:=RC Ku i ops[i] (by simp[hi]) e he ab;have:=a8 e.on Ω;rw[Nat.zero_add]at this;simp[this]
     ·simp[ab]
   rw[Gp]at hB;simp at hB
 intro fuel;induction fuel with
 |zero=>
  intro listed A a w dS aN aR tu aJ;have afw:rem listed 0 gs=[]:=List.eq_nil_of_length_eq_zero Ω;have Gp:Region.ready .any ops listed=[]:=by
   rw[List.eq_nil_iff_forall_not_mem];intro i hi;unfold Region.ready at hi;simp only[lC,List.mem_range,cE,rC]at hi;obtain⟨J,U,_⟩:=hi;have ay:listed.getD i false=false:=by simp only[Array.getD_eq_getD_getElem?]at U⊢;rw[Array.getElem?_eq_getElem Ω]at U⊢;simpa using U
   obtain⟨oI,po,g,_,aF,_⟩:=M8 Ω ay gs 0 Ω Ω;rw[afw]at aF;simp at aF
  exact⟨Gp,S7 listed A a w dS tu aJ Gp⟩
 |succ fuel bU=>
  intro listed A a w dS aN aR tu aJ;refine⟨S7 listed A a w dS tu aJ,fun i hi=>?_⟩;unfold Region.ready at hi;simp only[lC,List.mem_range,cE,rC]at hi;obtain⟨J,U,ar⟩:=hi;have ay:listed.getD i false=false:=by simp only[Array.getD_eq_getD_getElem?]at U⊢;rw[Array.getElem?_eq_getElem Ω]at U⊢;simpa using U
  have ax:ops[i]? =some ops[i]:=Array.getElem?_eq_getElem J;have S9:∀e∈ops[i].after.toList,Region.binds .any e=true->listed.getD e.on false=true:=by rw[ax]at ar;simp only[oH,jL]at ar;rw[<-Array.all_toList,fM]at ar;intro e he ab;simpa[ab]using ar e he
  obtain⟨oI,po,g,ao,aF,bA,dr⟩:=M8 Ω ay gs 0 Ω Ω;simp only[Nat.sub_zero]at ao dr;rw[aF]at tu;obtain⟨x,ae,aeE⟩:=O9 oI po A (fun y aH=>by
   obtain⟨f1,f2,f3,f4⟩:=dr y aH;rcases VZ afC i g ao y.1 y.2 (by simpa using f3) (by simpa using f1)with h|h
   ·have:=ahf aN i ops[i] ax S9 y.1 h;rw[f4]at this;cases this
   ·exact h) tu
  obtain⟨o',g1,g2⟩:=SG j7 i g ao;have:o'=ops[i]:=by rw[um,ax]at g1;exact(eJ g1).symm
  subst this;refine YU aM ax g2 ae aJ fun bj w' dH=>?_;refine bU (listed.setIfInBounds i true) (A.do x) bj w' (by simpa using dS) ?_ ?_ (by rw[bA];exact aeE) dH
  ·intro k o ad av e he ab;rw[FP Ω]at av⊢;split
   ·rfl
   ·by_cases wq:i=k
    ·subst wq;rw[ax]at ad;cases ad;exact S9 e he ab
    ·rw[if_neg wq]at av;exact aN k o ad av e he ab
  ·rw[bA];rw[aF]at aR;simp at aR⊢;omega
def x1(n0 d:Nat)(st:bm):Prop:= .loc (n0+d)∉st.o/\look (.loc (n0+d)) st.b=none/\look (.loc (n0+d)) st.e=none
def fV.loadO(q:Bool)(t:List (Nat×ai)):fV->Prop
 | .load _ _ x=>q=true\/yz (ct t x)=true
 | .loadB _ _ _=>True
 | .mgetB _ _ _ _ _=>True
 | .mget _ _ _ _ _=>q=true
 | .ment _=>q=true
 | .mlen _=>q=true
 |_=>True
def mc(q:Bool)(nw:List Nat)(n0:Nat)(st:bm):eh->Prop
 | .v _ i=>i.loadO q st.t
 | .box d none _=>x1 n0 d st
 | .alloc d none _=>x1 n0 d st
 | .box _ (some _) _=>eW
 | .alloc _ (some _) _=>eW
 | .store _ x _=>match ct st.t x with| .ptr _ _=>True|_=>eW
 | .bslm _ _ _ _ _=>eW
 | .mks _ _ _ _ _ _=>eW
 | .appm _ _ _ _ x _=>match ct st.t x with| .row _ _ _=>True|_=>eW
 | .storeE _ _ _=>True
 | .mkmap _ none=>eW
 | .mkmap _ (some m)=>m∈nw/\look (.obj m) st.b=none/\look (.obj m) st.e=none
 | .mput _ _ _ _=>True
 | .range _ _ _=>eW
 | .bsl d _ _ _=>x1 n0 d st
 | .app d _ _ x _=>match ct st.t x with
  | .slice _ .nil _=>x1 n0 d st
  | .slice _ (.own k) _=>(look k st.e).bind (·.xs)=none
  |_=>True
def pB(n0:Nat):eh->aL
 | .mkmap _ (some m)=>.obj m
 | .v d _| .box d _ _| .alloc d _ _| .bsl d _ _ _| .app d _ _ _ _| .bslm d _ _ _ _| .appm d _ _ _ _ _| .mkmap d _| .range d _ _| .mks d _ _ _ _ _=>.loc (n0+d)
 | .store _ _ _| .mput _ _ _ _| .storeE _ _ _=>.loc n0
def agO(nw:List Nat)(st:bm)(s ah:cS)(rm:Option aL):Prop:=(∀k,(look k ah.b).isSome->(look k s.b).isSome\/rm=some k)/\(∀k,(look k ah.e).isSome->(look k s.e).isSome\/rm=some k)/\(∀k,(look k s.b).isSome->(look k ah.b).isSome)/\(∀k,(look k s.e).isSome->(look k ah.e).isSome)/\
 (∀k,rm=some k->(∃j,j∈nw/\k= .obj j)/\look k st.b=none/\look k st.e=none/\((look k ah.b).isSome\/(look k ah.e).isSome))
def gW(P:cL)(q:Bool)(nw:List Nat)(n:Nat)(args:List ai)(st:bm)(d:Option Nat)(K:bm->Prop):Prop:=
 (∃cP r,d=some cP/\x1 st.n cP st/\aP (fun _=>eW) args/\Iy P n (st.n+cP) args ⟨[],[]⟩ (fun eM dE=>eM=r/\dE=⟨[],[]⟩)/\K {st with t:=put cP r st.t,o:= .loc (st.n+cP)::st.o})\/
 ∃s ah r rm,gz (inObs s) s.b st.b/\nS (inObs s) s.e st.e/\jc s/\jc ah/\agO nw st s ah rm/\aP (inObs s) args/\bH P n args s (fun eM dE=>eM=r/\dE=ah)/\(q=true->ah.b=[]/\ah.e=[])/\K {after st s ah d r with o:=st.o}
def kD(P:cL)(q:Bool)(nw:List Nat)(n0:Nat)(st:bm)(K:bm->Prop):ee->Prop
 | .s i=>match eD (pB n0 i) st.n (pB n0 i::st.o) st i with
  |some (c,st')=>mc q nw n0 st i/\c/\K st'
  |none=>eW
 | .call d f xs=>match ct st.t f with
  | .func n dn=>gW P q nw n (dv (xs.map (ct st.t)++dn)) st d K
  |_=>eW
 | .next _ _=>eW
def hZ(P:cL)(q:Bool)(nw:List Nat)(n0:Nat):List c9->bm->(bm->Prop)->Prop
 |[],st,K=>K st
 |⟨none,i⟩::r,st,K=>kD P q nw n0 st (fun st'=>hZ P q nw n0 r st' K) i
 |⟨some (s,want),i⟩::r,st,K=>match get s st.t with
  | .bool b=>(b=want->kD P q nw n0 {st with t:=put s (.bool want) st.t} (fun st'=>hZ P q nw n0 r st' K) i)/\(b= !want->hZ P q nw n0 r {st with t:=eR i.dst (.tuple []) (put s (.bool !want) st.t)} K)
  | .tuple []=>hZ P q nw n0 r {st with t:=eR i.dst (.tuple []) st.t} K
  |_=>eW
structure s5 (nw:List Nat) (n0 N:Nat) (pT:List aL) (st:bm) (A:dh):Prop where
 like:lE st A
 n:st.n=n0
 F:∀k,fresh n0 st.o k->(∀j∈nw,k≠ .obj j)->A.F k
 o:∀k∈st.o,k∈pT\/(∃d,d<N/\k= .loc (n0+d))\/ ∃j∈nw,k= .obj j
def BV(nw:List Nat)(A:dh):Prop:= ∀j∈nw,A.b (.obj j)=none->A.e (.obj j)=none->A.F (.obj j)
theorem BV.do{P:cL}{q:Bool}{n0:Nat}{nw:List Nat}{A:dh}(h:BV nw A){g:c9}{x:kY}(ae:kZ P q n0 g A x):BV nw (A.do x):=by
 intro j af ab he;refine⟨h j af (JB ab) (JC he),fun qV=>?_⟩;rcases(NO ae).r _ qV with⟨d,_,e⟩|⟨_,_,ag⟩
 ·cases e
 ·rcases ag with ag|ag
  ·obtain⟨y,aH⟩:=fE.1 ag;simp[dh.do,iD,aH]at ab
  ·obtain⟨y,aH⟩:=fE.1 ag;simp[dh.do,iD,aH]at he
theorem RK{P:cL}{q:Bool}{nw:List Nat}{n0 N:Nat}{pT:List aL}{i:ee}(aN:∀d,i.dst=some d->d<N){st:bm}{A:dh}(h:s5 nw n0 N pT st A)(me:BV nw A){K:bm->Prop}(he:kD P q nw n0 st K i):∃x st',ep P q n0 i A x/\K st'/\s5 nw n0 N pT st' (A.do x):=by
 have av:=h.like;have qf:∀d,x1 n0 d st->(A.F (.loc (n0+d))/\A.b (.loc (n0+d))=none/\A.e (.loc (n0+d))=none):=fun d aR=>⟨h.F _ ⟨Ψ,aR.1⟩ (fun _ _ e=>by cases e),by rw[<-av.b];exact aR.2.1,by rw[<-av.e];exact aR.2.2⟩;have ny:∀(d:Option Nat) (p:ai) (bw:List (aL×List ai)) (ew:List (aL×fN)) (κ:aL),∀k,fresh n0 (κ::st.o) k->(∀j∈nw,k≠ .obj j)->(A.do ⟨d,p,bw,ew,some κ⟩).F k:=fun d p bw ew κ k ad af=>⟨h.F k (wa k ad).1 af,fun e=>(wa k ad).2 (eJ e).symm⟩;have qY:∀(d:Option Nat) (p:ai) (bw:List (aL×List ai)) (ew:List (aL×fN)),∀k,fresh n0 st.o k->(∀j∈nw,k≠ .obj j)->(A.do ⟨d,p,bw,ew,none⟩).F k:=fun d p bw ew k ad af=>⟨h.F k ad af,Ψ⟩;have lN:∀d,d<N->∀k∈aL.loc (n0+d)::st.o,k∈pT\/(∃d,d<N/\k= .loc (n0+d))\/ ∃j∈nw,k= .obj j:=fun d aN k ad=>by
  rcases fD.1 ad with rfl|ad
  ·exact .inr (.inl ⟨d,aN,rfl⟩)
  ·exact h.o k ad
 cases i with
 |s i=>
  cases i with
  |v d i=>
   simp only[kD,eD]at he;cases aC:hs st i with
   |none=>simp[aC]at he
   |some Jx=>
    obtain⟨c,p⟩:=Jx;simp only[aC]at he;obtain⟨J,U,ar⟩:=he;refine⟨⟨some d,p,[],[],none⟩,_,⟨c,p,by rw[<-XY av];exact aC,U,fun oe=>?_,rfl⟩,ar,LM av d p,h.n,qY _ _ _ _,h.o⟩;cases i<;>simp only[fV.isLoad]at oe<;>try(cases oe;done)
    case mget=>exact .inr (.inl J)
    case ment=>exact .inr (.inl J)
    case mlen=>exact .inr (.inl J)
    case loadB=>exact .inl rfl
    case mgetB=>exact .inl rfl
    simp only[mc,fV.loadO,iR av]at J;exact .inr (by simpa only[fV.ptrOf]using J)
  |box d key v=>
   cases key with
   |some m=>simp only[kD,eD,mc,false_and]at he
   |none=>simp only[kD,eD,mc,pB]at he;obtain⟨J,U,ar⟩:=he;rw[iR av]at U;refine⟨_,_,⟨qf d J,U,rfl⟩,ar,?_,h.n,ny _ _ _ _ _,lN d (aN d rfl)⟩;rw[iR av];exact AR av d _ _ _ _ _ _
  |alloc d key z=>
   cases key with
   |some m=>simp only[kD,eD,mc,false_and]at he
   |none=>simp only[kD,eD,mc,pB]at he;obtain⟨J,U,ar⟩:=he;exact⟨_,_,⟨qf d J,rfl⟩,ar,AR av d _ _ _ _ _ _,h.n,ny _ _ _ _ _,lN d (aN d rfl)⟩
  |store sz u v=>
   simp only[kD,eD]at he;cases hu:ct st.t u with
   |ptr k off=>
    cases ab:look k st.b with
    |none=>simp[hu,ab]at he
    |some cs=>simp only[hu,ab]at he;obtain⟨J,U,ar⟩:=he;rw[iR av]at U hu;refine⟨⟨none,.junk,[(k,ov cs off (cells (dA A.t v)))],[],none⟩,_,⟨k,off,cs,hu,by rw[<-av.b];exact ab,U,rfl⟩,ar,?_,h.n,qY _ _ _ _,h.o⟩;rw[iR av];exact GR av k _ _
   |_=>
    exfalso;simp only[hu]at he;split at he
    ·have:=he.1;simp[mc,hu]at this
    ·exact he
  |bsl d sz el xs=>simp only[kD,eD,mc,pB]at he;obtain⟨J,U,ar⟩:=he;rw[uL av]at U;refine⟨_,_,⟨qf d J,U,rfl⟩,ar,?_,h.n,ny _ _ _ _ _,lN d (aN d rfl)⟩;rw[uL av];exact wV av d _ _ _ _ _ _
  |app d sz el u v=>
   simp only[kD,eD]at he;cases hu:ct st.t u with
   |slice dK tag xs=>
    cases aC:ct st.t v with
    |slice ju k8 ys=>
     simp only[hu,aC]at he;by_cases fh:dK=sz/\ju=sz
     ·obtain⟨rfl,rfl⟩:=fh;rw[iR av]at hu aC;cases tag with
      |no=>simp at he
      |tr k j=>simp at he
      |lo k=>simp at he
      |nil=>simp only[and_self,if_true,mc,iR av,hu,pB]at he;obtain⟨J,U,ar⟩:=he;exact⟨_,_,⟨.nil,xs,k8,ys,hu,aC,.inr ⟨rfl,U,qf d J,rfl⟩⟩,ar,wV av d _ _ _ _ _ _,h.n,ny _ _ _ _ _,lN d (aN d rfl)⟩
      |own k=>
       cases ad:look k st.e with
       |none=>simp[ad]at he
       |some o=>simp only[and_self,if_true,ad]at he;obtain⟨J,U,ar⟩:=he;exact⟨_,_,⟨.own k,xs,k8,ys,hu,aC,.inl ⟨k,o,rfl,by rw[<-av.e];exact ad,⟨by simpa[mc,iR av,hu,ad]using J,U⟩,rfl⟩⟩,ar,wV av d _ _ _ _ _ _,h.n,qY _ _ _ _,h.o⟩
     ·simp[fh]at he
    |_=>simp[hu,aC]at he
   |_=>simp[hu]at he
  |bslm d key sz el xs=>simp only[kD,eD,mc,false_and]at he
  |mks d key sz el z x=>simp only[kD,eD,mc,false_and]at he;split at he<;>simp at he
  |appm d key sz el u v=>
   simp only[kD,eD]at he;cases hu:ct st.t u with
   |row dK k n=>
    cases aC:ct st.t v with
    |slice ju k8 ys=>
     simp only[hu,aC,tc]at he;by_cases fh:dK=sz/\ju=sz
     ·obtain⟨rfl,rfl⟩:=fh;rw[iR av]at hu aC;simp only[and_self,if_true]at he;cases ad:look k st.e with
      |none=>simp[ad]at he
      |some o=>
       obtain⟨n',fX,xl,Mv⟩:=o;cases Mv with
       |none=>simp[ad]at he
       |some xs=>
        simp only[ad]at he;by_cases tt:n'=n/\fX=el/\xl=ju
        ·obtain⟨rfl,rfl,rfl⟩:=tt;simp only[and_self,if_true]at he;obtain⟨J,U,ar⟩:=he;exact⟨_,_,⟨k,n',xs,k8,ys,hu,aC,by rw[<-av.e];exact ad,U,rfl⟩,ar,wV av d _ _ _ _ _ _,h.n,qY _ _ _ _,h.o⟩
        ·simp[tt]at he
     ·simp[fh]at he
    |_=>simp[hu,aC,tc]at he
   |slice dK tag xs=>
    exfalso;simp only[hu]at he;split at he
    ·have:=he.1;simp[mc,hu]at this
    ·exact he
   |_=>simp[hu,tc]at he
  |storeE sz u v=>
   simp only[kD,eD]at he;cases hu:ct st.t u with
   |rptr dK k n i f=>
    cases ad:look k st.e with
    |none=>simp[hu,rl,ad]at he
    |some o=>
     obtain⟨n',el,xl,Mv⟩:=o;cases Mv with
     |none=>simp[hu,rl,ad]at he
     |some xs=>
      simp only[hu,rl,ad]at he;by_cases tt:n'=n/\xl=dK
      ·obtain⟨rfl,rfl⟩:=tt;simp only[and_self,if_true]at he;cases bF:xs[i]? with
       |none=>simp[bF]at he
       |some q=>simp only[bF]at he;obtain⟨J,U,ar⟩:=he;rw[iR av]at U hu;refine⟨⟨none,.junk,[],[(k,⟨n',el,xl,some (xs.set i (pY q f (cells (dA A.t v))))⟩)],none⟩,_,⟨k,n',i,f,el,xl,xs,q,hu,by rw[<-av.e];exact ad,bF,U,rfl⟩,ar,?_,h.n,qY _ _ _ _,h.o⟩;rw[iR av];exact UO av k _ _
      ·simp[tt]at he
   |_=>simp[hu,rl]at he
  |mkmap d key=>
   cases key with
   |none=>simp only[kD,eD,mc,false_and]at he
   |some m=>
    simp only[kD,eD,mc,pB]at he;obtain⟨⟨bE,J,U⟩,_,ar⟩:=he;rw[av.b]at J;rw[av.e]at U;refine⟨_,_,⟨⟨me m bE J U,J,U⟩,rfl⟩,ar,AR av d _ _ _ _ _ _,h.n,ny _ _ _ _ _,fun k ad=>?_⟩;rcases fD.1 ad with rfl|ad
    ·exact .inr (.inr ⟨m,bE,rfl⟩)
    ·exact h.o k ad
  |mput cg u k v=>
   simp only[kD,eD,mc]at he;cases hu:ct st.t u with
   |gmap m=>
    cases ab:look m st.b with
    |none=>simp[hu,ab]at he
    |some cs=>
     cases hm:nK cg (ct st.t k) (ct st.t v) cs with
     |none=>simp[hu,ab,hm]at he
     |some cs'=>simp only[hu,ab,hm]at he;rw[iR av]at hu;rw[iR av,iR av]at hm;exact⟨⟨none,.junk,[(m,cs')],[],none⟩,_,⟨m,cs,cs',hu,by rw[<-av.b];exact ab,hm,rfl⟩,he.2.2,GR av m _ _,h.n,qY _ _ _ _,h.o⟩
   |_=>simp[hu]at he
  |range d key x=>simp only[kD,mc,false_and]at he;split at he<;>exact he.elim
 |next d x=>simp only[kD]at he
 |call d f xs=>
  simp only[kD]at he;cases aR:ct st.t f with
  |func n dn=>
   simp only[aR]at he;rw[iR av]at aR;rcases he with⟨cP,r,rfl,bT,cx,dy,kp⟩|⟨s,ah,r,rm,bT,cx,dy,kp,k1,n4,Ca,ZL,ZM⟩
   ·rw[uL av]at cx dy;have ay:=h.n;subst ay;refine⟨⟨some cP,r,[],[],some (.loc (st.n+cP))⟩,_,⟨n,dn,aR,.inr ⟨cP,r,rfl,qf cP bT,cx,dy,rfl⟩⟩,kp,UP av cP r _ _,rfl,ny _ _ _ _ _,lN cP (aN cP rfl)⟩
   rw[uL av]at n4 Ca;obtain⟨aU,bp,b1,fT,df⟩:=k1;refine⟨⟨d,r,ah.b,ah.e,rm⟩,_,⟨n,dn,aR,.inl ⟨⟨s,ah,r,rm,fun k cs ad=>⟨by rw[<-av.b];exact(bT k cs ad).1,(bT k cs ad).2.2⟩,fun k o ad=>⟨by rw[<-av.e];exact(cx k o ad).1,(cx k o ad).2.2⟩,dy,kp,⟨aU,bp,b1,fT,fun k ad=>?_⟩,n4,Ca,rfl⟩,ZL⟩⟩,ZM,⟨fun i=>?_,fun k=>?_,fun k=>?_⟩,h.n,fun k ad af=>⟨h.F k ad af,fun qV=>?_⟩,h.o⟩
   ·obtain⟨⟨j,af,rfl⟩,aF,bA,dr⟩:=df k ad;rw[av.b]at aF;rw[av.e]at bA;exact⟨⟨j,rfl⟩,me j af aF bA,aF,bA,dr⟩
   ·simp only[after,dh.do];cases d with
    |none=>simpa[eR]using av.t i
    |some d=>simp only[eR,pH,dC,av.t]
   ·simp only[after,dh.do,iD,yH,vn];by_cases ag:(look k s.b).isSome
    ·have:=b1 k ag;obtain⟨y,aH⟩:=fE.1 this;simp[ag,aH]
    ·cases ay:look k ah.b with
     |none=>simp only[ag,av.b];cases A.b k<;>simp
     |some y=>
      rcases aU k (by simp[ay])with h|h
      ·exact absurd h ag
      ·have:=df k h;simp[ag,this]
   ·simp only[after,dh.do,iD,yH,vn];by_cases ag:(look k s.e).isSome
    ·have:=fT k ag;obtain⟨y,aH⟩:=fE.1 this;simp[ag,aH]
    ·cases ay:look k ah.e with
     |none=>simp only[ag,av.e];cases A.e k<;>simp
     |some y=>
      rcases bp k (by simp[ay])with h|h
      ·exact absurd h ag
      ·have:=df k h;simp[ag,this]
   ·obtain⟨⟨j,jB,rfl⟩,_⟩:=df k qV;exact af j jB rfl
  |_=>simp[aR]at he
def zN(N:Nat):List c9->Bool
 |[]=>true
 |g::r=>jz N g.i.dst&&zN N r
def zq:Nat->List c9->List (Nat×c9)
 |_,[]=>[]
 |k,g::r=>(k,g)::zq (k+1) r
theorem OO{nw:List Nat}{n0 N:Nat}{pT:List aL}{st:bm}{A:dh}(h:s5 nw n0 N pT st A){s:Nat}{p:ai}(ag:get s st.t=p):s5 nw n0 N pT {st with t:=put s p st.t} A:=by
 refine⟨⟨fun i=>?_,h.like.b,h.like.e⟩,h.n,h.F,h.o⟩;simp only[pH];split
 ·rename_i e;subst e;rw[<-ag];exact h.like.t _
 ·exact h.like.t i
theorem OP{nw:List Nat}{n0 N:Nat}{pT:List aL}{st:bm}{A:dh}(h:s5 nw n0 N pT st A)(d:Option Nat):s5 nw n0 N pT {st with t:=eR d (.tuple []) st.t} (A.do (ly d)):=by
 refine⟨⟨fun i=>?_,fun k=>?_,fun k=>?_⟩,h.n,fun k ad af=>⟨h.F k ad af,by simp[ly]⟩,h.o⟩
 ·simp only[dh.do,ly];cases d with
  |none=>simpa[eR]using h.like.t i
  |some d=>simp only[eR,pH,dC,h.like.t]
 ·simpa[dh.do,iD,look,ly]using h.like.b k
 ·simpa[dh.do,iD,look,ly]using h.like.e k
theorem Cl{P:cL}{q:Bool}{nw:List Nat}{n0 N:Nat}{pT:List aL}{K:bm->Prop}:∀(gs:List c9) (k:Nat),zN N gs=true->∀(st:bm) (A:dh),s5 nw n0 N pT st A->BV nw A->hZ P q nw n0 gs st K->vX P q n0 (fun gl=> ∃st',K st'/\s5 nw n0 N pT st' gl) (zq k gs) A
 |[],k,_,st,A,h,_,he=>⟨st,he,h⟩
 |⟨nx,i⟩::r,k,aN,st,A,h,me,he=>by
  simp only[zN,cE]at aN;have tv:∀d,i.dst=some d->d<N:=fun d e=>by have:=aN.1;rw[e]at this;simpa[jz]using this
  simp only[zq,vX];cases nx with
  |none=>simp only[hZ]at he;obtain⟨x,st',J,U,ar⟩:=RK tv h me he;have aX:kZ P q n0 ⟨none,i⟩ A x:=J;exact⟨x,aX,Cl r (k+1) aN.2 st' _ ar (me.do aX) U⟩
  |some zh=>
   obtain⟨s,want⟩:=zh;simp only[hZ]at he;split at he
   ·rename_i b ab;by_cases e:b=want
    ·subst e;obtain⟨x,st',J,U,ar⟩:=RK tv (OO h ab) me (he.1 rfl);have aX:kZ P q n0 ⟨some (s,b),i⟩ A x:=by unfold kZ;simp only[<-h.like.t,ab];exact .inl ⟨trivial,J⟩
     exact⟨x,aX,Cl r (k+1) aN.2 st' _ ar (me.do aX) U⟩
    ·have fZ:b= !want:=by cases b<;>cases want<;>simp at e⊢
     subst fZ;have aX:kZ P q n0 ⟨some (s,want),i⟩ A (ly i.dst):=by unfold kZ;simp only[<-h.like.t,ab];exact .inr ⟨trivial,trivial⟩
     exact⟨ly i.dst,aX,Cl r (k+1) aN.2 _ _ (OP (OO h ab) i.dst) (me.do aX) (he.2 rfl)⟩
   ·rename_i ab;have aX:kZ P q n0 ⟨some (s,want),i⟩ A (ly i.dst):=by unfold kZ;simp only[<-h.like.t,ab]
    exact⟨ly i.dst,aX,Cl r (k+1) aN.2 _ _ (OP h i.dst) (me.do aX) he⟩
   ·exact he.elim
theorem M7:∀(gs:List c9) (l:Array Bool) (k:Nat),(∀j,l.getD j false=false)->rem l k gs=zq k gs
 |[],_,_,_=>rfl
 |g::r,l,k,h=>by simp only[rem,h k,zq,M7 r l (k+1) h];simp
def uq(n:Nat)(o:List aL)(K:bm->Prop)(st:bm):Prop:=K {st with n:=n,o:=o}
theorem Good.like{pr:Nat->Prop}{w:World}{Z:bc}{b b0:List (aL×List ai)}{e fo:List (aL×fN)}(h:Good pr w Z b e)(ab:∀k,look k b0=look k b)(he:∀k,look k fo=look k e):Good pr w Z b0 fo:=
 ⟨h.alt,fun k cs ad=>h.box k cs (by rw[<-ab];exact ad),fun k bI bl J U=>h.inj k bI bl (by rw[<-ab];exact J) (by rw[<-ab];exact U),fun g o aX=>h.own g o (by rw[<-he];exact aX),
  fun g ff n n' v v' bl J U=>h.oinj g ff n n' v v' bl (by rw[<-he];exact J) (by rw[<-he];exact U),fun g k n v bl J U=>h.obx g k n v bl (by rw[<-he];exact J) (by rw[<-ab];exact U),h.one,
  fun bl aM=>h.otr bl (aM.imp (fun⟨k,bB,a2⟩=>⟨k,by rw[<-ab];exact bB,a2⟩) (fun⟨g,n,v,bB,a2⟩=>⟨g,n,v,by rw[<-he];exact bB,a2⟩))⟩
theorem RM{P:cL}(hm:P.follows .mixedOrders=true){bC:List (Nat×dz)}(aM:fI P bC=true){C:fj}{q:Bool}{nw:List Nat}{id:Nat}{ops:Array Oper}{gs:List c9}(j7:kF C.N bC ops.toList gs ops.toList=true)(FY:B4 gs ops.toList=true)(iT:zN C.N gs=true)
  {K:bm->Prop} {Q:Exit->Act->World->Prop} (ia:∀st' bj w' bn,K st'->cZ C st' bj w' bn->Q .normal bj w') {st:bm} {a:Act} {w:World} {Z:bc} (afz:∀j∈nw,.obj j∉st.o) (he:hZ P q nw st.n gs st (uq (st.n+C.N) (nw.map aL.obj++st.o) K)) (aJ:cZ C st a w Z):(Code.region id ops true).wp P Q a w:=by
 refine wp_region_any hm ?_;have dH:cZ C st a {w with drawn:=w.drawn+1} Z:=aJ.drawn _;let A:dh:=⟨fun i=>get i st.t,fun k=>look k st.b,fun k=>look k st.e,fresh st.n st.o⟩
 have mf:s5 nw st.n C.N st.o st A:=⟨⟨fun _=>rfl,fun _=>rfl,fun _=>rfl⟩,rfl,fun k ad _=>ad,fun k ad=>.inl ad⟩;have tu:=Cl gs 0 iT st A mf (fun j af _ _=>⟨trivial,afz j af⟩) he;have oT:∀j,(Array.replicate ops.size false).getD j false=false:=fun j=>by simp[Array.getD_eq_getD_getElem?,Array.getElem?_replicate];split<;>rfl
 refine Zo aM j7 FY (q:=q) (n0:=st.n) (K:=fun gl=> ∃st',uq (st.n+C.N) (nw.map aL.obj++st.o) K st'/\s5 nw st.n C.N st.o st' gl) ?_ ops.size _ A a _ Ψ ?_ ?_ (by rw[M7 gs _ 0 oT];exact tu) ⟨st,Z,mf.like,fun k ad=>ad,dH⟩
 ·rintro gl bj w' ⟨st',ad,bk⟩ ⟨arI,bn,od,CC,mQ⟩;refine ia _ bj w' bn ad ⟨mQ.good.like (fun k=>by rw[od.b,<-bk.like.b]) (fun k=>by rw[od.e,<-bk.like.e]),mQ.fr,mQ.defers,mQ.size,fun i=>?_,fun k wv=>?_⟩
  ·have:=mQ.slot i;rw[od.t,<-bk.like.t]at this;exact this
  ·refine mQ.new k (CC k (bk.F k ?_ fun j af e=>wv.2 (by subst e;exact List.mem_append_left _ (List.mem_map_of_mem af))));simp only at wv;refine⟨(J7 (Nat.le_add_right st.n C.N) (fun _ h=>h) wv).1,fun hB=>?_⟩;rcases bk.o k hB with h|⟨d,aN,rfl⟩|⟨j,af,rfl⟩;rotate_left 2
   ·exact wv.2 (List.mem_append_left _ (List.mem_map_of_mem af))
   ·exact wv.2 (List.mem_append_right _ h)
   ·have:=wv.1;simp at this;omega
 ·intro k o ad av;rw[oT]at av;cases av
 ·rw[M7 gs _ 0 oT];have:∀(gs:List c9) k,(zq k gs).length=gs.length:=by
   intro gs;induction gs with
   |nil=>intro k;rfl
   |cons g r bU=>intro k;simp[zq,bU]
  rw[this];have:=Kk j7;simp at this;omega
def gE:List ai->Prop
 |[]=>True
 |p::cH=>(match p with| .slice _ _ xs=>xs.length<=lim| .str s=>s.length<=lim|_=>True)/\gE cH
def gg:ai->Prop
 | .slice _ _ xs=>xs.length<=lim
 | .str s=>s.length<=lim
 | .agg cs=>gE cs
 |_=>True
def gS:List ai->Prop
 |[]=>True
 |p::r=>gg p/\gS r
theorem Na{w:World}{Z:bc}:∀{cs:List ai} {us:List Value},ds w Z cs us->gE cs
 |[],_,_=>trivial
 |c::cs,us,h=>by
  simp only[ds]at h;obtain⟨u,cm,_,J,U⟩:=h;refine⟨?_,Na U⟩;cases c<;>simp only<;>have ar:=J.1<;>simp only[bd]at ar
  ·exact ar.2
  ·obtain⟨⟨a,cap,_,_,a8,_⟩,_⟩:=ar;exact a8.2
theorem W6{w:World}{Z:bc}{cs:List ai}{us:List Value}(h:jt w Z cs us):hV cs=true->gE cs:=fun bK=>by rw[vt bK]at h;exact Na h
theorem Xi{w:World}{Z:bc}{p:ai}{v:Value}(h:bd w Z p v):gg p:=by
 cases p<;>simp only[gg]<;>simp only[bd]at h
 ·exact h.2
 ·obtain⟨⟨a,cap,_,_,a8,_⟩,_⟩:=h;exact a8.2
 ·obtain⟨us,_,U⟩:=h;exact Na U
theorem Xg{w:World}{Z:bc}:∀{cs:List ai} {us:List Value},cX w Z cs us->gS cs
 |[],_,_=>trivial
 |c::cs,us,h=>by simp only[cX]at h;obtain⟨u,cm,_,J,U⟩:=h;exact⟨Xi J,Xg U⟩
inductive C where
 |skip
 |region (gs:List c9)
 |drawn (q:Bool) (N:Nat) (gs:List c9)
 |drawnW (nw:List Nat) (N:Nat) (gs:List c9)
 |seq (a b:C)
 |cond (x:dt) (t e:C)
 |block (id:Nat) (c:C)
 |loop (c:C)
 |exit (id:Nat)
 |ret
 |pub (s:Nat) (c:C)
 |pubB (s:Nat) (c:C)
 |fg (pP:Bool) (s:Nat) (c:C)
 |fz (agg:Bool) (s:Nat) (c:C)
 |no
def DZ(st:bm):ai->Option (ai×List (aL×fN))
 | .row sz k n=>match look k st.e with
  |some ⟨n',el,dK,some xs⟩=>if n'=n/\dK=sz then some (.slice sz (.own k) xs,cA k ⟨n,el,sz,none⟩ st.e)else none
  |_=>none
 |_=>none
def w8(st:bm)(s:Nat):Option bm:=
 match DZ st (get s st.t)with
 |some (p,e)=>some {st with t:=put s p st.t,e:=e}
 |none=>none
def w7(st:bm)(s:Nat):Option bm:=
 match get (s%1000) st.t with
 | .ptr k off=>match look k st.b with
  |some cs=>match cs[off+s/1000]? with
   |some p=>match DZ st p with
    |some (Bd,e)=>if hV cs then some {st with b:=cA k (cs.set (off+s/1000) Bd) st.b,e:=e}else none
    |none=>none
   |none=>none
  |none=>none
 |_=>none
theorem M6{C:fj}{st:bm}{a:Act}{w:World}{Z:bc}(h:cZ C st a w Z){s:Nat}{p:ai}(ag:bd w Z p (a.tmps.getD s undef)):cZ C {st with t:=put s p st.t} a w Z:=by
 refine⟨h.good,h.fr,h.defers,h.size,fun i=>?_,h.new⟩;have:=h.slot i;simp only[pH];split
 ·rename_i e;subst e;exact ag
 ·exact this
theorem V5{C:fj}{st:bm}{a:Act}{w:World}{Z:bc}(h:cZ C st a w Z){p Bd:ai}{e:List (aL×fN)}{v:Value}(bK:bd w Z p v)(he:DZ st p=some (Bd,e)):
  ∃bn,cZ C {st with e:=e} a w bn/\bd w bn Bd v/\lF w Z w bn:=by
 unfold DZ at he;split at he
 ·rename_i sz k n;split at he
  ·rename_i n' el dK xs ad;split at he
   ·rename_i aq;obtain⟨rfl,rfl⟩:=aq;cases he;simp only[bd]at bK;obtain⟨_,av,n0,u,J,U,ar⟩:=bK;obtain⟨v0,fw,a6,bD,bY,c5⟩:=h.good.own k _ ad;rw[J]at a6;simp only[dC,jM]at a6;obtain⟨rfl,rfl⟩:=a6;have aC:v=u:=ar rfl;subst aC;obtain⟨dc,_,_⟩:=c5 xs rfl;simp only at dc;obtain⟨g1,g2⟩:=h.publish ad rfl J (by rw[dc];exact av);refine⟨_,g1,g2,⟨fun b o bg=>⟨.inl bg,rfl⟩,fun j b _ af=>af,fun g n u _ iU=>⟨n,u,?_,.inl ⟨rfl,rfl⟩⟩,fun _ _ _=>rfl,fun _ _ _ _ h=>h⟩⟩;simp only[bc.withRowOf];split
    ·rename_i e;subst e;rw[J]at iU;exact iU
    ·exact iU
   ·cases he
  ·cases he
 ·cases he
def zU(pP:Bool):ai->ai
 | .slice sz tag xs=>.slice sz (if pP then tag else .no) (dv xs)
 |p=>ey p
theorem ac8{w:World}{Z:bc}{pP:Bool}{p:ai}{v:Value}(h:bd w Z p v):bd w Z (zU pP p) v:=by
 have J:=y7 p v h;cases p with
 |slice sz tag xs=>
  simp only[zU];cases pP with
  |false=>simpa only[gO,if_false,ey]using J
  |true=>
   simp only[if_true];simp only[bd,ey]at h J⊢;refine⟨J.1,fun e=>h.2.1 e,fun g e=>?_,fun k j e=>?_,fun k e=>?_⟩
   ·obtain⟨n,u,ao,aF,bA⟩:=h.2.2.1 g e;exact⟨n,u,ao,by rw[vI];exact aF,by rw[vI];exact bA⟩
   ·exact Sj _ _ (h.2.2.2.1 k j e)
   ·exact Sj _ _ (h.2.2.2.2 k e)
 |_=>exact J
theorem aj3{C:fj}{st st':bm}{a:Act}{w:World}{Z:bc}(h:cZ C st a w Z){s:Nat}(he:w8 st s=some st'):∃bn,cZ C st' a w bn:=by
 unfold w8 at he;split at he
 ·rename_i p e bK;cases he;obtain⟨bn,J,U,_⟩:=V5 h (h.slot s) bK;exact⟨_,M6 J U⟩
 ·cases he
theorem Xd{w:World}{Z:bc}:∀{cs:List ai} {us:List Value} {i:Nat} {p q:ai} {v:Value},ds w Z cs us->cs[i]? =some p->us[i]? =some v->bd w Z q v->ds w Z (cs.set i q) us
 |[],_,_,_,_,_,_,h,_,_=>by simp at h
 |c::cs,us,0,p,q,v,h,_,aC,bF=>by simp only[ds]at h;obtain⟨u,cm,rfl,J,U⟩:=h;simp only[List.getElem?_cons_zero,dC]at aC;subst aC;simp only[List.set_cons_zero,ds];exact⟨_,_,rfl,⟨bF,J.2⟩,U⟩
 |c::cs,us,i+1,p,q,v,h,bK,aC,bF=>by simp only[ds]at h;obtain⟨u,cm,rfl,J,U⟩:=h;simp only[List.set_cons_succ,ds];exact⟨_,_,rfl,J,Xd U (by simpa using bK) (by simpa using aC) bF⟩
theorem aj2{C:fj}{st st':bm}{a:Act}{w:World}{Z:bc}(h:cZ C st a w Z){s:Nat}(he:w7 st s=some st'):∃bn,cZ C st' a w bn:=by
 unfold w7 at he;split at he
 ·rename_i k ahO ad;generalize ahO+s/1000=off at he;split at he
  ·rename_i cs di;split at he
   ·rename_i p bK;split at he
    ·rename_i Bd e Gk;split at he
     ·rename_i tG;cases he;obtain⟨bl,us,el,g1,g2,g3,g4,g5⟩:=h.good.box k cs di;rw[vt tG]at g5;have bs:off<us.toList.length:=by rw[pW g5];exact(fb.1 bK).1
      obtain⟨v,aC⟩:∃v,us.toList[off]? =some v:=⟨_,cf bs⟩;have Av:bd w Z p v:=by have:=Bt off g5;rw[kX (fb.1 bK).1,kX bs]at this;simp only[ds]at this;obtain⟨u,cm,ao,aF,_⟩:=this;rw[(fb.1 bK).2]at aF;rw[(fb.1 aC).2]at ao;cases ao;exact aF.1
      obtain⟨bn,J,U,ar⟩:=V5 h Av Gk;have wE:ds w bn (cs.set off Bd) us.toList:=Xd (Xc ar g5) bK aC U;have TB:=Bv wE;refine⟨bn,⟨J.good.alt,fun j eP af=>?_,fun j dD b af jB=>J.good.inj j dD b ?_ ?_,J.good.own,J.good.oinj,fun g j n v b aX af=>J.good.obx g j n v b aX ?_,J.good.one,fun bl ab=>J.good.otr bl (ab.imp (fun⟨bI,bB,a2⟩=>⟨bI,by rw[ja]at bB;split at bB;(rename_i e;subst e;simp[di]);exact bB,a2⟩) id)⟩,J.fr,J.defers,J.size,J.slot,J.new⟩
      ·simp only at af;rw[ja]at af;split at af
       ·rename_i e;subst e;cases af;obtain⟨iC,cm,fX,f1,f2,f3,f4,f5⟩:=J.good.box k cs di;have:iC=bl:=by have:=ar.bx k bl trivial g1;rw[this]at f1;cases f1;rfl
        subst this;rw[vs tG]at g4 f4;rw[g4]at f4;injection f4 with f4;injection f4 with f4 f6 f7;refine⟨iC,us,el,f1,f2,f3,by rw[vs TB];exact g4,by rw[vt TB];exact wE⟩
       ·exact J.good.box j eP af
      ·simp only at af;rw[ja]at af;split at af
       ·rename_i e;subst e;simp[di]
       ·exact af
      ·simp only at jB;rw[ja]at jB;split at jB
       ·rename_i e;subst e;simp[di]
       ·exact jB
      ·simp only at af;rw[ja]at af;split at af
       ·rename_i e;subst e;simp[di]
       ·exact af
     ·cases he
    ·cases he
   ·cases he
  ·cases he
 ·cases he
def th{α:Type}(k:aL)(l:List (aL×α)):List (aL×α):=match l with
 |[]=>[]
 |(i,x)::r=>if i=k then th k r else(i,x)::th k r
theorem LN{α:Type}(k j:aL):∀l:List (aL×α),look j (th k l)=if j=k then none else look j l
 |[]=>by simp[th,look]
 |(i,x)::r=>by
  simp only[th];by_cases h:i=k
  ·subst h;rw[if_pos rfl,LN i j r];by_cases U:j=i
   ·simp[U]
   ·have:¬i=j:=fun e=>U e.symm;simp[look,U,this]
  ·rw[if_neg h];simp only[look];by_cases U:i=j
   ·subst U;simp[h]
   ·simp only[U,if_false];exact LN k j r
def Ka(agg:Bool):List ai->Option ai
 |[p]=>if agg then some (.agg [p])else some p
 |cs=>if agg then some (.agg cs)else none
def wb(st:bm)(agg:Bool)(s:Nat):Option bm:=
 match get s st.t with
 | .ptr k 0=>match look k st.b with
  |some cs=>if hV cs then match Ka agg cs with
    |some x=>some {st with t:=put s (.eptr x) st.t,b:=th k st.b}
    |none=>none
   else none
  |none=>none
 |_=>none
theorem ajL{u:Value}(h:u.oneCell'=true):u.cells.toList=[u]:=by cases u<;>first|rfl|(simp[Value.oneCell']at h)
theorem UH{w:World}{A:Nat->Nat->Prop}{b:Nat}{us:Array Value}{el:gP}(ab:w.heap[b]? =some (.cells us el))(bg:∀o,o<us.size->A b o):∀(ba:List Value) (off:Nat),us.toList.drop off=ba->lV w A b off ba
 |[],_,_=>trivial
 |v::ba,off,h=>by
  have bs:off<us.toList.length:=by
   rcases Nat.lt_or_ge off us.toList.length with J|J
   ·exact J
   ·rw[List.drop_eq_nil_of_le J]at h;cases h
  have U:=kX bs;rw[h]at U;injection U with U ar;refine⟨⟨bg off (by simpa using bs),?_⟩,UH ab bg ba (off+1) ar.symm⟩;have wz:off<us.size:=by simpa using bs
  simp only[World.cell?,ab,lD,gO,if_false];rw[U];simp[wz]
theorem adq{C:fj}{st st':bm}{a:Act}{w:World}{Z:bc}(h:cZ C st a w Z){agg:Bool}{s:Nat}(he:wb st agg s=some st'):∃bn,cZ C st' a w bn:=by
 unfold wb at he;split at he
 ·rename_i k ad;split at he
  ·rename_i cs di;split at he
   ·rename_i tG;split at he
    ·rename_i x ae;cases he;obtain⟨bl,us,el,g1,g2,g3,g4,g5⟩:=h.good.box k cs di;rw[vt tG]at g5;rw[vs tG]at g4;have bs:bl<w.heap.size:=by
      rcases Nat.lt_or_ge bl w.heap.size with J|J
      ·exact J
      ·rw[Array.getElem?_eq_none J]at g4;cases g4
     let bn:bc:={Z with A:=fun b o=>Z.A b o\/(b=bl/\o<us.size)}
     have ax:lF w Z w bn:=⟨fun b o bg=>⟨.inl bg,rfl⟩,fun j b _ af=>af,fun g n u _ iU=>⟨n,u,iU,.inl ⟨rfl,rfl⟩⟩,fun _ _ _=>rfl,fun _ _ _ _ h=>h⟩;have ib:∀j eP,look j (th k st.b)=some eP->j≠k/\look j st.b=some eP:=fun j eP af=>by
      rw[LN]at af;split at af
      ·cases af
      ·rename_i e;exact⟨e,af⟩
     have Gb:∀j,(look j (th k st.b)).isSome->(look j st.b).isSome:=fun j af=>by obtain⟨eP,iT⟩:=fE.1 af;simp[(ib j eP iT).2]
     have qd:∀(g:aL) (n:Nat) (v:Value),(look g st.e).isSome->Z.ow g=some (n,v)->v.ownBlock=some bl->eW:=fun g n v J U ar=>h.good.obx g k n v bl J (by simp[di]) U ar g1;have nH:bd w bn (.eptr x) (a.tmps.getD s undef):=by
      have ag:=h.slot s;rw[ad]at ag;simp only[bd]at ag⊢;obtain⟨b0,a6,bD⟩:=ag;rw[g1]at a6;cases a6;have av:lV w bn.A bl 0 us.toList:=UH g4 (fun o ax=>.inr ⟨rfl,ax⟩) _ 0 rfl;have g6:ds w bn cs us.toList:=Xc ax g5;unfold Ka at ae;split at ae
      ·rename_i p;simp only[ds]at g6;obtain⟨u,cm,ao,aF,bA⟩:=g6;subst bA;split at ae
       ·cases ae;exact⟨bl,0,.agg us,bD,by simp only[bd];exact⟨us,rfl,by rw[ao];simp only[ds];exact⟨u,[],rfl,aF,rfl⟩⟩,by simpa[pe]using av⟩
       ·cases ae;refine⟨bl,0,u,bD,aF.1,?_⟩;rw[ajL aF.2,<-ao];exact av
      ·split at ae
       ·cases ae;exact⟨bl,0,.agg us,bD,by simp only[bd];exact⟨us,rfl,g6⟩,by simpa[pe]using av⟩
       ·cases ae
     refine⟨bn,M6 (Z:=bn) (st:={st with b:=th k st.b}) ⟨⟨fun b o bg=>?_,fun j eP af=>?_,fun j dD b J U=>h.good.inj j dD b (Gb j J) (Gb dD U),fun g o aX=>?_,h.good.oinj,fun g j n v b J U=>h.good.obx g j n v b J (Gb j U),h.good.one,fun b aM=>h.good.otr b (aM.imp (fun⟨j,bB,a2⟩=>⟨j,Gb j bB,a2⟩) id)⟩,⟨h.fr.os,h.fr.tape,h.fr.output,h.fr.size,h.fr.block,fun b o bg=>⟨.inl (h.fr.keep b o bg).1,(h.fr.keep b o bg).2⟩,fun b o bg=>?_,h.fr.obj,h.fr.obn,h.fr.row,h.fr.obr,h.fr.trd,h.fr.trb,h.fr.trn,h.fr.sh⟩,h.defers,h.size,fun i=>y6 ax (h.slot i),h.new⟩ nH⟩
     ·rcases bg with bg|⟨rfl,_⟩
      ·exact h.good.alt b o bg
      ·exact bs
     ·obtain⟨cK,jB⟩:=ib j eP af;obtain⟨iC,cm,fX,f1,f2,f3,f4,f5⟩:=h.good.box j eP jB;refine⟨iC,cm,fX,f1,f2,fun o bg=>?_,f4,qz ax f5⟩;rcases bg with bg|⟨rfl,_⟩
      ·exact f3 o bg
      ·exact cK (h.good.inj j k _ (by simp[jB]) (by simp[di]) f1 g1)
     ·obtain⟨v0,fw,ao,aF,bA,dr⟩:=h.good.own g o aX;have wh:∀b,v0.ownBlock=some b->∀j,bn.A b j->Z.A b j:=fun b ab j bg=>by
       rcases bg with bg|⟨rfl,_⟩
       ·exact bg
       ·exact(qd g _ v0 (by simp[aX]) ao ab).elim
      exact⟨v0,fw,ao,aF,fun b ab=>⟨(bA b ab).1,fun j bg=>(bA b ab).2 j (wh b ab j bg)⟩,sG ax wh dr⟩
     ·rcases bg with bg|⟨rfl,_⟩
      ·exact h.fr.fresh b o bg
      ·exact .inr g2
    ·cases he
   ·cases he
  ·cases he
 ·cases he
def sF(st:bm)(x:dt)(b:Bool):bm:=match x with
 | .t i=>{st with t:=put i (.bool b) st.t}
 | .c _=>st
def c3(P:cL)(ob:List aL):C->(Exit->bm->Prop)->bm->Prop
 | .skip,Q,st=>Q .normal st
 | .region gs,Q,st=>h8 P gs st (Q .normal)
 | .drawn q N gs,Q,st=>hZ P q [] st.n gs st (uq (st.n+N) st.o (Q .normal))
 | .drawnW nw N gs,Q,st=>(∀j∈nw,.obj j∉st.o)/\hZ P false nw st.n gs st (uq (st.n+N) (nw.map aL.obj++st.o) (Q .normal))
 | .seq a b,Q,st=>c3 P ob a (fun e st'=>match e with| .normal=>c3 P ob b Q st'|e=>Q e st') st
 | .cond x t e,Q,st=>match ct st.t x with
  | .bool b=>(b=true->c3 P ob t Q (sF st x true))/\(b=false->c3 P ob e Q (sF st x false))
  |_=>eW
 | .block id c,Q,st=>c3 P ob c (fun e st'=>match e with| .exit j=>if j=id then Q .normal st' else Q (.exit j) st'|e=>Q e st') st
 | .loop c,Q,st=> ∃(hl:Nat->bm->Prop) (m:Nat) (xi:bm),iO ob st xi/\hl m xi/\
   ∀k s,hl k s->(∀i,gg (get i s.t))->(∀j cs,look j s.b=some cs->hV cs=true->gE cs)->c3 P ob c (fun e ah=>match e with| .normal=> ∃bI o5,bI<k/\iO ob ah o5/\hl bI o5|e=>Q e ah) s
 | .exit id,Q,st=>Q (.exit id) st
 | .ret,Q,st=>Q .ret st
 | .pub s c,Q,st=>match w8 st s with
  |some st'=>c3 P ob c Q st'
  |none=>eW
 | .pubB s c,Q,st=>match w7 st s with
  |some st'=>c3 P ob c Q st'
  |none=>eW
 | .fg pP s c,Q,st=>c3 P ob c Q {st with t:=put s (zU pP (get s st.t)) st.t}
 | .fz fW s c,Q,st=>match wb st fW s with
  |some st'=>c3 P ob c Q st'
  |none=>eW
 | .no,_,_=>eW
def hG(N:Nat)(bC:List (Nat×dz)):C->Code->Bool
 | .skip,.skip=>true
 | .region gs,.region _ ops false=>kF N bC ops.toList gs ops.toList
 | .drawn _ N' gs,.region _ ops true=>N'==N&&kF N bC ops.toList gs ops.toList&&B4 gs ops.toList&&zN N gs
 | .drawnW _ N' gs,.region _ ops true=>N'==N&&kF N bC ops.toList gs ops.toList&&B4 gs ops.toList&&zN N gs
 | .seq a b,.seq x y=>hG N bC a x&&hG N bC b y
 | .cond x t e,.cond o dE fo=>ef x o&&hG N bC t dE&&hG N bC e fo
 | .block id c,.block Df cp=>id==Df&&hG N bC c cp
 | .loop c,.loop cp=>hG N bC c cp
 | .exit id,.exit Df=>id==Df
 | .ret,.ret=>true
 | .pub _ c,cp=>hG N bC c cp
 | .pubB _ c,cp=>hG N bC c cp
 | .fg _ _ c,cp=>hG N bC c cp
 | .fz _ _ c,cp=>hG N bC c cp
 | .no,_=>true
 |_,_=>false
theorem SH{N:Nat}{bC:List (Nat×dz)}{ops:List Oper}:∀{gs:List c9} {os:List Oper},kF N bC ops gs os=true->gs.length=os.length
 |[],[],_=>rfl
 |[],_::_,h=>by simp[kF]at h
 |_::_,[],h=>by simp[kF]at h
 |g::gs,o::os,h=>by simp only[kF,cE]at h;simp[SH h.2]
def YT(P:cL)(C:fj)(c:Code)(Q:Exit->bm->Prop)(st:bm):Prop:= ∀a w Z,cZ C st a w Z->c.wp P (fun e bj w'=> ∃st' bn,Q e st'/\cZ C st' bj w' bn) a w
theorem rR{P:cL}(hm:P.follows .mixedOrders=true){bC:List (Nat×dz)}(aM:fI P bC=true){X:fj}:∀(c:C) (code:Code) (Q:Exit->bm->Prop) (st:bm),hG X.N bC c code=true->c3 P X.ob c Q st->YT P X code Q st
 | .skip,code,Q,st,ax,he=>by
  cases code<;>simp only[hG]at ax<;>try cases ax
  intro a w Z aJ;exact wp_skip ⟨st,Z,he,aJ⟩
 | .region gs,code,Q,st,ax,he=>by
  cases code<;>try(simp[hG]at ax;done)
  rename_i id ops draw;cases draw<;>simp only[hG]at ax
  ·intro a w Z aJ;refine wp_region ?_;have av:gs.length=ops.size:=by simpa using SH ax
   rw[List.range_eq_range',<-av];exact RN aM (K:=Q .normal) (fun st' bj w' bn J U=>⟨st',bn,J,U⟩) gs ops.toList 0 Ψ ax st a w Z he aJ
  ·cases ax
 | .drawn q N gs,code,Q,st,ax,he=>by
  cases code<;>try(simp[hG]at ax;done)
  rename_i id ops draw;cases draw<;>simp only[hG]at ax
  ·cases ax
  ·simp only[cE,dL]at ax;obtain⟨⟨⟨rfl,J⟩,U⟩,ar⟩:=ax;intro a w Z aJ;exact RM hm aM J U ar (nw:=[]) (K:=Q .normal) (fun st' bj w' bn J U=>⟨st',bn,J,U⟩) Ψ he aJ
 | .drawnW nw N gs,code,Q,st,ax,he=>by
  cases code<;>try(simp[hG]at ax;done)
  rename_i id ops draw;cases draw<;>simp only[hG]at ax
  ·cases ax
  ·simp only[cE,dL]at ax;obtain⟨⟨⟨rfl,J⟩,U⟩,ar⟩:=ax;intro a w Z aJ;exact RM hm aM J U ar (nw:=nw) (K:=Q .normal) (fun st' bj w' bn J U=>⟨st',bn,J,U⟩) he.1 he.2 aJ
 | .seq x y,code,Q,st,ax,he=>by
  cases code<;>try(simp[hG]at ax;done)
  rename_i pA lI;simp only[hG,cE]at ax;intro a w Z aJ;refine wp_seq ?_;have J:=rR hm aM x pA _ st ax.1 he a w Z aJ;refine wp_mono J fun e bj w' cu=>?_;obtain⟨st',bn,bF,dH⟩:=cu;cases e with
  |normal=>exact rR hm aM y lI Q st' ax.2 bF bj w' bn dH
  |_=>exact⟨st',bn,bF,dH⟩
 | .cond x t e,code,Q,st,ax,he=>by
  cases code<;>try(simp[hG]at ax;done)
  rename_i o ZU ce;simp only[hG,cE]at ax;intro a w Z aJ;simp only[c3]at he;have ae:=eg aJ ax.1.1;split at he
  ·rename_i b ab;rw[ab]at ae;simp only[bd]at ae;have C8:cZ X (sF st x b) a w Z:=by
    unfold sF;split
    ·exact M5 aJ (by simpa[ct]using ab)
    ·exact aJ
   refine wp_cond ae ?_;cases b
   ·exact rR hm aM e ce Q _ ax.2 (he.2 rfl) a w Z C8
   ·exact rR hm aM t ZU Q _ ax.1.2 (he.1 rfl) a w Z C8
  ·exact he.elim
 | .block id c,code,Q,st,ax,he=>by
  cases code<;>try(simp[hG]at ax;done)
  rename_i Df cp;simp only[hG,cE,dL]at ax;obtain⟨rfl,ax⟩:=ax;intro a w Z aJ;refine wp_block ?_;refine wp_mono (rR hm aM c cp _ st ax he a w Z aJ) fun e bj w' cu=>?_;obtain⟨st',bn,bF,dH⟩:=cu;cases e with
  |exit j=>
   simp only[Exit.inBlock]at bF⊢;by_cases af:j=id
   ·rw[if_pos af]at bF⊢;exact⟨st',bn,bF,dH⟩
   ·rw[if_neg af]at bF⊢;exact⟨st',bn,bF,dH⟩
  |_=>exact⟨st',bn,bF,dH⟩
 | .loop c,code,Q,st,ax,he=>by
  cases code<;>try(simp[hG]at ax;done)
  rename_i cp;simp only[hG]at ax;intro a w Z aJ;simp only[c3]at he;obtain⟨hl,m,xi,hw,hi,jW⟩:=he;refine wp_loop_ghost (fun k a w=> ∃s Z,hl k s/\cZ X s a w Z) m ⟨xi,_,hi,aJ.weaker hw⟩ ?_;intro k a w Kp;obtain⟨s,Z,ag,C9⟩:=Kp;have J:=jW k s ag (fun i=>Xi (C9.slot i)) (fun j cs af=>by obtain⟨bl,us,el,_,_,_,_,g5⟩:=C9.good.box j cs af;exact W6 g5);refine wp_mono (rR hm aM c cp _ s ax J a w Z C9) fun e bj w' cu=>?_;obtain⟨st',bn,bF,dH⟩:=cu;cases e with
  |normal=>obtain⟨bI,o5,ao,aF,bA⟩:=bF;exact⟨bI,ao,o5,_,bA,dH.weaker aF⟩
  |_=>exact⟨st',bn,bF,dH⟩
 | .exit id,code,Q,st,ax,he=>by
  cases code<;>try(simp[hG]at ax;done)
  rename_i Df;simp only[hG,dL]at ax;subst ax;intro a w Z aJ;exact wp_exit ⟨st,Z,he,aJ⟩
 | .ret,code,Q,st,ax,he=>by
  cases code<;>try(simp[hG]at ax;done)
  intro a w Z aJ;exact wp_ret ⟨st,Z,he,aJ⟩
 | .pub s c,code,Q,st,ax,he=>by
  simp only[hG]at ax;simp only[c3]at he;split at he
  ·rename_i st' ag;intro a w Z aJ;obtain⟨bn,J⟩:=aj3 aJ ag;exact rR hm aM c code Q st' ax he a w bn J
  ·exact he.elim
 | .pubB s c,code,Q,st,ax,he=>by
  simp only[hG]at ax;simp only[c3]at he;split at he
  ·rename_i st' ag;intro a w Z aJ;obtain⟨bn,J⟩:=aj2 aJ ag;exact rR hm aM c code Q st' ax he a w bn J
  ·exact he.elim
 | .fg pP s c,code,Q,st,ax,he=>by simp only[hG]at ax;simp only[c3]at he;intro a w Z aJ;exact rR hm aM c code Q _ ax he a w Z (M6 aJ (ac8 (aJ.slot s)))
 | .fz fW s c,code,Q,st,ax,he=>by
  simp only[hG]at ax;simp only[c3]at he;intro a w Z aJ;split at he
  ·rename_i st' da;obtain⟨bn,J⟩:=adq aJ da;exact rR hm aM c code Q st' ax he a w bn J
  ·exact he.elim
 | .no,code,Q,st,ax,he=>by simp only[c3]at he
inductive bX where
 |tmp (i:Nat)
 |cell (i:Nat) (agg:Bool) (sz:Nat)
def aY(st:bm):bX->Option (Prop×ai)
 | .tmp i=>some (True,get i st.t)
 | .cell i agg sz=>mZ st.b st.e agg sz (get i st.t)
def aW(st:bm):List bX->Option (Prop×List ai)
 |[]=>some (True,[])
 |r::fl=>match aY st r,aW st fl with
  |some (c,p),some (cp,cH)=>some (c/\cp,p::cH)
  |_,_=>none
def rh(bC:List (Nat×dz)):List bX->List ResultVar->Bool
 |[],[]=>true
 | .tmp i::fl,.tmp j::os=>i==j&&rh bC fl os
 | .cell i agg sz::fl,.cell j t::os=>i==j&&(match eb bC t with|some f=>f.size==sz&&f.kind.isAgg==agg|none=>false)&&rh bC fl os
 |_,_=>false
def aV:List ai->ai
 |[p]=>p
 |cH=>.tuple cH
def H2(tmps:Array Value):ResultVar->Sem Value
 | .tmp t=>pure (tmps.getD t undef)
 | .cell x t=>do loadVar t (<-asAddr (tmps.getD x undef))
theorem ak1(fn:Func)(tmps:Array Value):results fn tmps=(do let ba<-fn.results.mapM (H2 tmps);pure (if h:ba.size=1 then ba[0]else .tuple ba)):=by unfold results;congr 2
theorem Nd{P:cL}{bC:List (Nat×dz)}(aM:fI P bC=true){X:fj}{st:bm}{a:Act}{w:World}{Z:bc}(aJ:cZ X st a w Z):
  ∀(fl:List bX) (os:List ResultVar) (c:Prop) (cH:List ai),rh bC fl os=true->aW st fl=some (c,cH)->c->
  ∃ba,(os.mapM (H2 a.tmps)).run P w= .ok ba w/\cX w Z cH ba
 |[],[],c,cH,_,he,_=>by simp only[aW]at he;cases he;exact⟨[],Ψ,by simp[cX]⟩
 |[],_::_,_,_,ax,_,_=>by simp[rh]at ax
 | .tmp _::_,[],_,_,ax,_,_=>by simp[rh]at ax
 | .cell _ _ _::_,[],_,_,ax,_,_=>by simp[rh]at ax
 |r::fl,o::os,c,cH,ax,he,aq=>by
  simp only[aW]at he;split at he
  ·rename_i bT p cx V4 J U;cases he;cases r with
   |tmp i=>
    cases o with
    |cell _ _=>simp[rh]at ax
    |tmp j=>simp only[rh,cE,dL]at ax;obtain⟨rfl,ax⟩:=ax;simp only[aY]at J;cases J;obtain⟨ba,g1,g2⟩:=Nd aM aJ fl os cx V4 ax U aq.2;refine⟨a.tmps.getD i undef::ba,?_,by simp only[cX];exact⟨_,_,rfl,aJ.slot i,g2⟩⟩;simp only[List.mapM_cons,fL,H2,gB,fR,g1]
   |cell i agg sz=>
    cases o with
    |tmp _=>simp[rh]at ax
    |cell j t=>
     simp only[rh,cE,dL]at ax;obtain⟨⟨rfl,ar⟩,ax⟩:=ax;split at ar
     ·rename_i f aR;simp only[cE,dL]at ar;obtain⟨rfl,rfl⟩:=ar;simp only[aY]at J;obtain⟨ba,g1,g2⟩:=Nd aM aJ fl os cx V4 ax U aq.2;obtain⟨v,f1,f2⟩:=GS aM aJ.good aR (aJ.slot i) J aq.1;have C5:∃s9,a.tmps.getD i undef= .pointer (some s9):=by
       have ag:=aJ.slot i;unfold mZ at J;split at J
       ·rename_i dK k n wL rS ad;rw[ad]at ag;simp only[bd]at ag;obtain⟨⟨b,o,e⟩,_⟩:=ag;exact⟨_,e⟩
       ·rename_i k off ad;rw[ad]at ag;simp only[bd]at ag;obtain⟨b,_,e⟩:=ag;exact⟨_,e⟩
       ·rename_i q ad;rw[ad]at ag;simp only[bd]at ag;obtain⟨b,off,u,e,_⟩:=ag;exact⟨_,e⟩
       ·cases J
      obtain⟨s9,CG⟩:=C5;rw[CG]at f1;simp only[Instr.loadAt,Instr.sureAddr,fL,gB,fR]at f1;refine⟨v::ba,?_,by simp only[cX];exact⟨_,_,rfl,f2,g2⟩⟩;have aev:(asAddr (.pointer (some s9)):Sem Addr).run P w= .ok s9 w:=rfl;simp only[List.mapM_cons,fL,H2,gB,fR,g1,CG,aev,f1]
     ·cases ar
  ·cases he
theorem Ea{w:World}{Z:bc}:∀{cH:List ai} {ba:List Value},cX w Z cH ba->ba.length=cH.length
 |[],ba,h=>by simp only[cX]at h;subst h;rfl
 |p::cH,ba,h=>by simp only[cX]at h;obtain⟨u,cm,rfl,_,U⟩:=h;simp[Ea U]
def kh:Nat->List ai->List (Nat×ai)
 |_,[]=>[]
 |i,p::cH=>(i,p)::kh (i+1) cH
theorem Kj:∀(cH:List ai) (i j:Nat),get j (kh i cH)=if i<=j/\j<i+cH.length then cH.getD (j-i) .junk else .junk
 |[],i,j=>by simp[kh,get]
 |p::cH,i,j=>by
  simp only[kh,get];by_cases h:i=j
  ·subst h;simp
  ·rw[if_neg h,Kj cH (i+1) j];by_cases U:i<=j/\j<i+(p::cH).length
   ·rw[if_pos U,if_pos (by simp at U⊢;omega)];have:j-i=(j-(i+1))+1:=Ω
    rw[this];simp
   ·rw[if_neg U,if_neg (by simp at U⊢;omega)]
def kQ{α:Type}(ah:cS):List (aL×α)->Prop
 |[]=>True
 |(k,_)::r=>inObs ah k/\kQ ah r
theorem AL{α:Type}{ah:cS}:∀{l:List (aL×α)},kQ ah l->∀k,(look k l).isSome->inObs ah k
 |[],_,k,h=>by simp[look]at h
 |(i,x)::r,ad,k,h=>by
  simp only[kQ]at ad;simp only[look]at h;split at h
  ·rename_i e;subst e;exact ad.1
  ·exact AL ad.2 k h
def cO(fl:List bX)(s:cS)(Q:ai->cS->Prop)(e:Exit)(st:bm):Prop:=
 (e= .ret\/e= .normal)/\match aW st fl with
  |some (c,cH)=>c/\∃ah,kQ ah s.b/\kQ ah s.e/\gz (inObs ah) ah.b st.b/\nS (inObs ah) ah.e st.e/\jc ah/\aG (inObs ah) (ey (aV cH))/\Q (ey (aV cH)) ah
  |none=>eW
theorem bH.of{P:cL}(hm:P.follows .mixedOrders=true){bC:List (Nat×dz)}(aM:fI P bC=true){f:FuncId}{fn:Func}(aR:P.funcs[f]? =some fn){code:Code}(ab:fn.body=some code)(C1:(fn.name== "runtime.NumGoroutine")=false){c:C}(aq:hG fn.ntmps bC c code=true){fl:List bX}(C9:rh bC fl fn.results.toList=true)
  {args:List ai} (av:args.length<=fn.ntmps) {s:cS} (nG:jc s) {Q:ai->cS->Prop} (he:gS args->(∀j cs,look j s.b=some cs->hV cs=true->gE cs)->c3 P (c2 s) c (cO fl s Q) ⟨kh 0 args,s.b,s.e,0,c2 s⟩):bH P f args s Q:=by
 intro w Z ba aX ae aJ;refine .inl ⟨⟨fn,aR,by simp[ab],C1⟩,?_⟩;have jl:=Ea aJ;have k6:ba.size=args.length:=by simpa using jl
 let X:fj:=⟨w,Z,fx Z s,fn.ntmps,c2 s⟩
 have oT:∀k,fresh 0 (c2 s) k->Z.bx k=none/\Z.ow k=none/\∀j b,¬Z.tr k j b:=by
  intro k ad;cases k with
  |loc m=>exact⟨(ae _).1 (nG.1 m),(ae _).2.1 (nG.2 m),(ae _).2.2⟩
  |obj m=>
   simp only[fresh,true_and]at ad;refine⟨?_,?_,(ae _).2.2⟩
   ·refine(ae _).1 ?_;cases h:look (.obj m) s.b with
    |none=>rfl
    |some x=>exact absurd (tY (.inl (by simp[h]))) ad
   ·refine(ae _).2.1 ?_;cases h:look (.obj m) s.e with
    |none=>rfl
    |some x=>exact absurd (tY (.inr (by simp[h]))) ad
 have gH:∀m,(Z.bx (.obj m)≠none\/Z.ow (.obj m)≠none)-> .obj m∈c2 s:=by
  intro m hm;refine Classical.byContradiction fun aq=>?_;obtain⟨J,U,_⟩:=oT (.obj m) ⟨trivial,aq⟩;rcases hm with hm|hm
  ·exact hm J
  ·exact hm U
 have qj:cZ X ⟨kh 0 args,s.b,s.e,0,c2 s⟩ {tmps:=ba++Array.replicate (fn.ntmps-ba.size) undef,defers:=[]} w Z:=by
  refine⟨⟨aX.alt,fun k cs ad=>?_,aX.inj,fun g o dY=>?_,aX.oinj,aX.obx,aX.one,aX.otr⟩,⟨rfl,rfl,rfl,eX _,fun _ _ _=>rfl,fun b o h=>⟨h,rfl⟩,fun b o h=>.inl h,fun n b h=>h,fun n b h=>gH n (.inl (by rw[h];simp)),fun m n u h=>⟨n,u,h,.inl ⟨rfl,rfl⟩⟩,fun m n u h=>gH m (.inr (by rw[h];simp)),fun k j _ _ b h=>absurd h ((ae k).2.2 j b),fun k j b h=>absurd h ((ae k).2.2 j b),fun k j b h=>absurd h ((ae k).2.2 j b),fun _ _ _=>rfl⟩,rfl,?_,fun i=>?_,oT⟩
  ·obtain⟨bl,us,el,g1,g2,g3⟩:=aX.box k cs ad;exact⟨bl,us,el,g1,.inl g2,g3⟩
  ·obtain⟨v,us,g1,g2,g3,g4⟩:=aX.own g o dY;exact⟨v,us,g1,g2,fun bl e8=>⟨.inl (g3 bl e8).1,(g3 bl e8).2⟩,g4⟩
  ·show(ba++Array.replicate (fn.ntmps-ba.size) undef).size=fn.ntmps;simp;omega
  ·rw[Kj];by_cases hi:i<args.length
   ·rw[if_pos Ω];have uZ:args[i]? =some args[i]:=cf hi;obtain⟨v,ao,aF⟩:=HP i aJ uZ;have aC:(ba++Array.replicate (fn.ntmps-ba.size) undef).getD i undef=v:=by
     have JG:ba[i]? =some v:=by simpa using ao
     rw[Array.getD_eq_getD_getElem?,Array.getElem?_append_left Ω,JG];rfl
    show bd w Z _ ((ba++Array.replicate (fn.ntmps-ba.size) undef).getD i undef);rw[aC];simpa[List.getD,uZ]using aF
   ·rw[if_neg Ω];simp[bd]
 have uW:=he (Xg aJ) (fun j cs af=>by obtain⟨bl,us,el,_,_,_,_,g5⟩:=aX.box j cs af;exact W6 g5);have af5:=rR hm aM (X:=X) c code (cO fl s Q) _ aq uW _ w Z qj;refine calls_of_wp aR ab (wp_mono af5 fun e bj w' cu=>?_);obtain⟨st',bn,⟨uV,bF⟩,dH⟩:=cu;cases yr:aW st' fl with
 |none=>simp[yr]at bF
 |some x=>
  obtain⟨cp,cH⟩:=x;simp only[yr]at bF;obtain⟨hH,ah,kb,ke,a6,bD,bY,c5,dc⟩:=bF;obtain⟨xe,g1,g2⟩:=Nd aM dH fl fn.results.toList cp cH C9 yr hH;have afK:=Ea g2;have dG:bj.defers=[]/\∃v,(results fn bj.tmps).run P w'= .ok v w'/\(fun(e:Ending) w'=> ∃v r ah bn,e= .returned v/\Q r ah/\bd w' bn r v/\Good (fun bl=>fx Z s bl\/w.heap.size<=bl) w' bn ah.b ah.e/\pF bn ah/\jc ah/\qI ⟨w,Z,fx Z s,0,c2 s⟩ w' bn) (.returned v) w':=by
   refine⟨dH.defers,?_⟩;have iW:(results fn bj.tmps).run P w'= .ok (if h:xe.toArray.size=1 then xe.toArray[0]else .tuple xe.toArray) w':=by rw[ak1];simp only[fL,Array.mapM_eq_mapM_toList,Sem.run_map,g1,fR,gB]
   refine⟨_,iW,_,ey (aV cH),ah,bn.cut (inObs ah),rfl,dc,?_,dH.good.cut a6 bD (fun bl h _=>h),?_,bY,?_⟩
   ·have mR:bd w' bn (aV cH) (if h:xe.toArray.size=1 then xe.toArray[0]else .tuple xe.toArray):=by
     match cH,xe,g2,afK with
     |[p],[v],g2,_=>simp only[cX]at g2;obtain⟨u,cm,ao,aF,_⟩:=g2;cases ao;simpa[aV]using aF
     |[],[],g2,_=>simp[aV,bd,cX]
     |p::du::cH,v::v2::xe,g2,_=>rw[dif_neg Ψ];simp only[aV,bd];exact⟨_,rfl,by simpa using g2⟩
     |[_],[],_,h=>simp at h
     |[],_::_,_,h=>simp at h
     |[_],_::_::_,_,h=>simp at h
     |_::_::_,[],_,h=>simp at h
     |_::_::_,[_],_,h=>simp at h
    exact vB (pq.cut _ w' bn) _ _ c5 (y7 _ _ mR)
   ·intro k;refine⟨?_,?_,?_⟩;rotate_left 2
    ·rintro j b ⟨ag,ab⟩;obtain⟨t1,t2⟩:=dH.fr.trn k j b ab;rcases ag with ag|ag<;>obtain⟨x,iu⟩:=fE.1 ag
     ·obtain⟨bl,cm,el,ao,_⟩:=dH.good.box k x (a6 k x iu).1;rw[t1]at ao;cases ao
     ·obtain⟨v',cm,ao,_⟩:=dH.good.own k x (bD k x iu).1;rw[t2]at ao;cases ao
    ·intro ad;by_cases ag:inObs ah k
     ·rw[bc.cut_bx ag];rcases ag with ag|ag
      ·rw[ad]at ag;cases ag
      ·obtain⟨x,iu⟩:=fE.1 ag;obtain⟨v',cm,ao,_⟩:=dH.good.own k x (bD k x iu).1;rcases dH.good.one k with J|J
       ·exact J
       ·rw[J]at ao;cases ao
     ·exact(bc.cut_no ag).1
    ·intro ad;by_cases ag:inObs ah k
     ·rw[bc.cut_ow ag];rcases ag with ag|ag
      ·obtain⟨x,iu⟩:=fE.1 ag;obtain⟨bl,cm,el,ao,_⟩:=dH.good.box k x (a6 k x iu).1;rcases dH.good.one k with J|J
       ·rw[J]at ao;cases ao
       ·exact J
      ·rw[ad]at ag;cases ag
     ·exact(bc.cut_no ag).2.1
   ·refine⟨dH.fr.os,dH.fr.tape,dH.fr.output,dH.fr.size,dH.fr.block,dH.fr.keep,dH.fr.fresh,fun n b h=>?_,fun n b h=>gH n (.inl (by rw[h];simp)),fun m n u h=>?_,fun m n u h=>gH m (.inr (by rw[h];simp)),fun k j bI dD b J U=>dH.fr.trd k j bI dD b J.2 U.2,fun k j b ab=>dH.fr.trb k j b ab.2,fun k j b ab=>(by rw[bc.cut_bx ab.1,bc.cut_ow ab.1];exact dH.fr.trn k j b ab.2),dH.fr.sh⟩
    ·have ag:inObs ah (.obj n):=by
      cases av:look (.obj n) s.b with
      |none=>rw[(ae _).1 av]at h;cases h
      |some x=>exact AL kb _ (by simp[av])
     rw[bc.cut_bx ag];exact dH.fr.obj n b h
    ·have ag:inObs ah (.obj m):=by
      cases av:look (.obj m) s.e with
      |none=>rw[(ae _).2.1 av]at h;cases h
      |some x=>exact AL ke _ (by simp[av])
     rw[bc.cut_ow ag];exact dH.fr.row m n u h
  rcases uV with rfl|rfl<;>exact dG
def b7(bC:List (Nat×dz))(c:C)(fl:List bX)(ahI:Nat)(fn:Func):Bool:=
 match fn.body with
 |some code=>hG fn.ntmps bC c code&&rh bC fl fn.results.toList&& !(fn.name== "runtime.NumGoroutine")&&decide (ahI<=fn.ntmps)
 |none=>false
theorem bH.mk{P:cL}(hm:P.follows .mixedOrders=true){bC:List (Nat×dz)}(aM:fI P bC=true){f:FuncId}{fn:Func}(aR:P.funcs[f]? =some fn){c:C}{fl:List bX}{n:Nat}(eA:b7 bC c fl n fn=true)
  {args:List ai} (av:args.length<=n) {s:cS} (nG:jc s) {Q:ai->cS->Prop} (he:gS args->(∀j cs,look j s.b=some cs->hV cs=true->gE cs)->c3 P (c2 s) c (cO fl s Q) ⟨kh 0 args,s.b,s.e,0,c2 s⟩):bH P f args s Q:=by
 unfold b7 at eA;split at eA
 ·rename_i code ab;simp only[cE,rC,e6]at eA;obtain⟨⟨⟨J,U⟩,ar⟩,a8⟩:=eA;exact bH.of hm aM aR ab ar J U (kn av a8) nG he
 ·cases eA
theorem yP:jc ⟨[],[]⟩:=⟨fun _=>rfl,fun _=>rfl⟩
def bu(fl:List bX)(r:ai)(e:Exit)(st:bm):Prop:=
 (e= .ret\/e= .normal)/\match aW st fl with
  |some (c,cH)=>c/\ey (aV cH)=r
  |none=>eW
theorem bZ.mk{P:cL}(hm:P.follows .mixedOrders=true){bC:List (Nat×dz)}(aM:fI P bC=true){f:FuncId}{fn:Func}(aR:P.funcs[f]? =some fn){c:C}{fl:List bX}{n:Nat}(eA:b7 bC c fl n fn=true)
  {args:List ai} (av:args.length<=n) {r:ai} (aJ:aG (fun _=>eW) r) (he:gS args->c3 P [] c (bu fl r) ⟨kh 0 args,[],[],0,[]⟩):bZ P f args r:=by
 refine bH.mk hm aM aR eA av yP fun J _=>?_;have:=he J;have ia:bu fl r=cO fl ⟨[],[]⟩ (fun eM ah=>eM=r/\ah=⟨[],[]⟩):=by
  funext e st;unfold bu cO;apply propext;refine and_congr_right fun _=>?_;cases aW st fl with
  |none=>exact Iff.rfl
  |some x=>
   obtain⟨c,cH⟩:=x;refine and_congr_right fun _=>?_;constructor
   ·intro h;refine⟨⟨[],[]⟩,trivial,trivial,fun k cs ad=>by simp[look]at ad,fun k cs ad=>by simp[look]at ad,yP,?_,h,rfl⟩;rw[h];exact wS (fun k ad=>ad.elim) r aJ
   ·rintro⟨ah,_,_,_,_,_,_,h,_⟩;exact h
 rw[ia]at this;exact this
theorem Om{α:Type}{β:Type}:∀l:List (aL×α),cb ([]:List (aL×β)) l=l
 |[]=>rfl
 |(k,x)::r=>by simp[cb,look,Om r]
theorem cW.val{P:cL}{n:Nat}{args:List ai}{st:bm}{d:Option Nat}{K:bm->Prop}{r:ai}(ad:aP (fun _=>eW) args)(aR:bZ P n args r)(h:K {st with t:=eR d r st.t}):cW P n args st d K:=by
 refine .inl ⟨⟨[],[]⟩,_,fun k cs ad=>by simp[look]at ad,fun k cs ad=>by simp[look]at ad,yP,j9 (fun _ h=>h.elim) _ ad,aR,?_⟩;rintro eM ah ⟨rfl,rfl⟩;refine⟨⟨fun m h=>by simp[look]at h,fun m h=>by simp[look]at h⟩,?_⟩;have:after st ⟨[],[]⟩ ⟨[],[]⟩ d eM={st with t:=eR d eM st.t}:=by simp[after,Om,c2]
 rw[this];exact h
@[reducible,simp] def eF(n:Int):dt:= .c (.int .i64 n)
@[reducible,simp] def I(a b:Nat):c9:=⟨none,.s (.v a (.mov (.t b)))⟩
@[reducible,simp] def bR(a:Nat)(i:fV):c9:=⟨none,.s (.v a i)⟩
@[reducible,simp] def cN(i:eh):c9:=⟨none,.s i⟩
@[reducible,simp] def dj(a f:Nat)(l:List dt):c9:=⟨none,.call (some a) (.c (.func f [])) l⟩
@[reducible,simp] def bW(j:Nat)(w:Bool)(a b:Nat):c9:=⟨some (j,w),.s (.v a (.mov (.t b)))⟩
@[reducible,simp] def xD(j:Nat)(w:Bool)(a:Nat)(i:fV):c9:=⟨some (j,w),.s (.v a i)⟩
@[reducible,simp] def ys(j:Nat)(w:Bool)(i:eh):c9:=⟨some (j,w),.s i⟩
@[reducible,simp] def cy(d s a b:Nat):c9:=bR d (.iaddr s (.t a) (.t b))
@[reducible,simp] def aw(d s a:Nat):c9:=bR d (.load false s (.t a))
@[reducible,simp] def a7(d s a:Nat):c9:=bR d (.load true s (.t a))
@[reducible,simp] def aI(d o s a:Nat):c9:=bR d (.faddr o false s (.t a))
@[reducible,simp] def gI(d o s a:Nat):c9:=bR d (.faddr o true s (.t a))
@[reducible,simp] def br(d:Nat)(o:BinOp)(a b:Nat):c9:=bR d (.bin o false (.t a) (.t b))
@[reducible,simp] def aS(d:Nat)(o:BinOp)(a:Nat)(n:Int):c9:=bR d (.bin o false (.t a) (eF n))
@[reducible,simp] def cz(d a:Nat):c9:=bR d (.len (.t a))
@[reducible,simp] def cJ(d a:Nat):c9:=bR d (.notB (.t a))
@[reducible,simp] def cC(d i a:Nat):c9:=bR d (.ext i (.t a))
@[reducible,simp] def c6(d a b:Nat):c9:=bR d (.pick (.t a) (.c (.bool true)) (.t b))
@[reducible,simp] def dq(d a b:Nat):c9:=bR d (.pick (.t a) (.t b) (.c (.bool false)))
@[reducible,simp] def bq(d:Nat)(b:Bool):c9:=bR d (.mov (.c (.bool b)))
@[reducible,simp] def cd(d:Nat)(n:Int):c9:=bR d (.mov (eF n))
@[reducible,simp] def bN(s a b:Nat):c9:=cN (.store s (.t a) (.t b))
@[reducible,simp] def au(j:Nat)(w:Bool)(x:c9):c9:=⟨some (j,w),x.i⟩
@[reducible,simp] def aa(l:List c9)(c:C):C:= .seq (.region l) c
@[reducible,simp] def aZ(n:Nat)(a b:C):C:= .cond (.t n) a b
@[reducible,simp] def gj(d a:Nat)(l:List dt):c9:=⟨none,.call (some d) (.t a) l⟩
@[reducible,simp] def cR(d f a:Nat):c9:=dj d f [.t a]
@[reducible,simp] def ch(d f a b:Nat):c9:=dj d f [.t a,.t b]
@[reducible,simp] def dd:List ai:=[.int .i64 0,.int .i64 0,.str [],.slice 4 .nil []]
@[reducible,simp] def hT:List ai:=[.int .i64 0,.int .i64 0,.int .i64 0,.str [],.slice 4 .nil []]
@[reducible,simp] def kR:List ai:=[.int .i64 0,.slice 5 .nil [],.slice 1 .nil [],.slice 2 .nil [],.slice 2 .nil []]
@[reducible,simp] def c8(a b:Nat):c9:=cN (.box a none (.t b))
@[reducible,simp] def c1(a:Nat)(l:List ai):c9:=cN (.alloc a none (.agg l))
@[reducible,simp] def e4(a n:Nat):c9:=bR a (.mov (.c (.slice n .nil [])))
@[reducible,simp] def hj(a b c d e:Nat):c9:=cN (.app a b c (.t d) (.t e))
@[reducible,simp] def eE(a b c:Nat)(l:List dt):c9:=cN (.bsl a b c l)
@[reducible,simp] def eI(a b:Nat):c9:=bR a (.nck (.t b))
@[reducible,simp] def jv(d s a:Nat)(n:Int):c9:=bR d (.iaddr s (.t a) (eF n))
@[reducible,simp] def hD(d:Nat)(l:List ai)(m:List (Nat×Nat×dt)):c9:=bR d (.build l m)
@[reducible,simp] def e5(a b c:Nat)(x:C):C:= .block 0 (.loop (aa [br a .lss b c] (.seq (aZ a .skip (.exit 0)) x)))
end
end Go.Pv
namespace Go.Proofs.YtohaalphocaebaaGreatDoor
section
open Go Go.Pv
def PN:C:=(aa [cN (.box 2 (some 101) (.t 0)),cN (.box 3 (some 102) (.t 1)),cd 4 0] (aa [aw 6 1 2,cz 7 6,bR 8 (.mkf 58 [.t 2,.t 3]),ch 9 57 7 8,I 5 9] (.seq (.seq (.drawn true 24 [I 10 5,aw 11 1 2,cz 12 11,br 13 .lss 10 12,I 14 13,au 14 true (aw 15 1 2),bW 14 true 16 5,au 14 true (cy 17 5 15 16),au 14 true (aI 18 0 1 17),au 14 true (aw 19 1 18),au 14 true (aw 20 1 3),au 14 true (br 21 .eql 19 20),dq 22 14 21]) (aZ 22 (aa [I 23 5,I 4 23] .ret) .skip)) (aa [cd 4 (-1)] .ret))))
@[simp] def Wp:List bX:=[.tmp 4]
def PZ:C:=(aa [cN (.box 2 (some 201) (.t 0)),c8 3 1,c1 4 dd,bq 5 false] (aa [a7 6 4 3,bR 7 (.mkf 61 [.t 2]),ch 8 60 6 7,cC 9 0 8,cC 10 1 8,bN 4 4 9,I 5 10] .ret))
@[simp] def Ww:List bX:=[.cell 4 true 4,.tmp 5]
def zF:C:=(aa [c8 1 0,c1 2 dd] (aa [aI 6 0 1 1,aw 7 1 6,aI 8 1 1 1,aw 9 1 8,aI 10 2 1 1,aw 11 1 10,hD 12 dd [(0,1,(.t 7)),(1,1,(.t 9)),(2,1,(.t 11))],c1 3 dd,bN 4 3 12] (.seq (aa [aI 13 3 1 1,aw 14 1 13,cz 15 14,cd 16 0] (e5 17 16 15 (.seq (.block 1 (aa [cy 18 4 14 16,a7 19 4 18,c1 5 dd,bN 4 5 19] (.drawn true 29 [aI 20 3 1 3,aw 21 1 20,a7 22 4 5,cR 23 37 22,eE 24 4 36 [.t 23],hj 25 4 36 21 24,aI 26 3 1 3,bN 1 26 25]))) (.region [aS 27 .add 16 1,I 16 27])))) (aa [a7 28 4 3,bN 4 2 28] .ret))))
@[simp] def akK:List bX:=[.cell 2 true 4]
def Qd:C:=(aa [cd 4 0] (aa [I 8 0,cd 5 0,I 6 8] (.seq (.block 0 (.loop (.seq (aa [I 9 5,I 10 6,br 11 .lss 9 10] (aZ 11 .skip (.exit 0))) (.block 1 (aa [I 12 5,I 13 6,br 14 .add 12 13,bR 15 (.conv .u64 (.t 14)),bR 16 (.bin .shr false (.t 15) (.c (.int .u64 1))),bR 17 (.conv .i64 (.t 16)),I 7 17] (aa [I 18 1,I 19 7,gj 20 18 [.t 19],cJ 21 20] (aZ 21 (.region [I 22 7,aS 23 .add 22 1,I 5 23]) (.region [I 24 7,I 6 24])))))))) (aa [I 25 5,I 4 25] .ret))))
@[simp] def WA:List bX:=[.tmp 4]
def PO:C:=(aa [bq 4 false] (.seq (.drawn true 12 [aw 5 1 1,I 6 0,cy 7 5 5 6,aI 8 0 1 7,aw 9 1 8,aw 10 1 2,br 11 .geq 9 10,I 4 11]) .ret))
@[simp] def Wq:List bX:=[.tmp 4]
def P1:C:=(aa [c8 2 0,cN (.box 3 (some 202) (.t 1)),c1 4 dd,bq 5 false] (aa [a7 7 4 2,bR 8 (.mkf 113 [.t 3]),ch 9 112 7 8,I 6 9] (.seq (aa [I 10 6,aS 11 .gtr 10 5000] (aZ 11 (aa [hD 12 dd [],bN 4 4 12,bq 5 false] .ret) .skip)) (aa [a7 13 4 2,aw 14 1 3,ch 15 115 13 14,bN 4 4 15,bq 5 true] .ret))))
@[simp] def MI:List bX:=[.cell 4 true 4,.tmp 5]
def P0:C:=(aa [c1 3 dd,bq 4 false] (.seq (aa [aw 6 1 1,I 7 0,ch 8 24 6 7,I 5 8] (aa [I 9 5,aS 10 .geq 9 0] (aZ 10 (aa [aw 11 1 1,I 12 5,cy 13 5 11 12,gI 14 1 4 13,a7 15 4 14,bN 4 3 15,bq 4 true] .ret) .skip))) (aa [hD 16 dd [],bN 4 3 16,bq 4 false] .ret)))
@[simp] def MH:List bX:=[.cell 3 true 4,.tmp 4]
def Px:C:=(aa [bq 2 false] (.seq (aa [I 5 0,cz 6 5,aS 7 .gtr 6 400] (aZ 7 (aa [bq 2 false] .ret) .skip)) (.seq (aa [I 8 0,cz 9 8,cd 10 0] (e5 11 10 9 (.seq (.block 1 (aa [I 12 10,cy 13 5 8 10,a7 14 5 13,c1 4 hT,I 3 12,bN 5 4 14] (.seq (.drawn true 45 [aI 15 0 1 4,aw 16 1 15,aS 17 .lss 16 0,I 18 17,au 18 false (aI 19 0 1 4),au 18 false (aw 20 1 19),au 18 false (aS 21 .gtr 20 100000),c6 22 18 21,I 23 22,bW 23 false 24 3,au 23 false (aS 25 .gtr 24 0),bW 23 false 26 25,bW 26 true 27 0,bW 26 true 28 3,au 26 true (aS 29 .sub 28 1),au 26 true (cy 30 5 27 29),au 26 true (aI 31 0 1 30),au 26 true (aw 32 1 31),au 26 true (aI 33 0 1 4),au 26 true (aw 34 1 33),au 26 true (br 35 .geq 32 34),au 23 false (dq 36 26 35),c6 37 23 36,I 38 37,au 38 false (gI 39 1 4 4),au 38 false (a7 40 4 39),au 38 false (cR 41 89 40),au 38 false (cJ 42 41),c6 43 38 42]) (aZ 43 (aa [bq 2 false] .ret) .skip)))) (.region [aS 44 .add 10 1,I 10 44])))) (aa [bq 2 true] .ret))))
@[simp] def Hp:List bX:=[.tmp 2]
def PL:C:=(aa [c8 2 0,c8 3 1,bq 4 false] (aa [a7 5 4 2,a7 6 4 3,ch 7 117 5 6,aS 8 .eql 7 0,I 4 8] .ret))
@[simp] def Wn:List bX:=[.tmp 4]
def QQ:C:=(aa [c8 2 0,c8 3 1,c1 4 dd] (aa [a7 5 4 2,a7 6 4 3,eE 7 4 36 [.t 5,.t 6],hD 8 dd [(0,1,(eF 4)),(3,1,(.t 7))],bN 4 4 8] .ret))
@[simp] def WR:List bX:=[.cell 4 true 4]
def Jr:C:=(aa [c1 2 dd] (aa [I 3 0,hD 4 dd [(0,1,(eF 1)),(1,1,(.t 3))],bN 4 2 4] .ret))
@[simp] def WV:List bX:=[.cell 2 true 4]
def P6:C:=(aa [bq 2 false] (.seq (aa [I 5 0,cz 6 5,cd 7 0] (e5 8 7 6 (.seq (.block 1 (aa [cy 9 4 5 7,a7 10 4 9,c1 4 dd,bN 4 4 10] (aa [a7 11 4 4,cR 12 89 11,cJ 13 12] (aZ 13 (aa [bq 2 false] .ret) .skip)))) (.region [aS 14 .add 7 1,I 7 14])))) (aa [bq 2 true] .ret)))
@[simp] def akq:List bX:=[.tmp 2]
def Pw:C:=(aa [c8 1 0,bq 2 false] (aa [a7 3 4 1,dj 4 114 [.t 3,(eF 5000)],aS 5 .gtr 4 0,I 2 5] .ret))
@[simp] def We:List bX:=[.tmp 2]
def xR:C:=(aa [c8 2 0] (.seq (aa [aI 4 0 1 2,aw 5 1 4,aS 6 .eql 5 1] (aZ 6 (.region [I 7 1,aI 8 1 1 2,aw 9 1 8,gj 10 7 [.t 9]]) .skip)) (aa [aI 11 0 1 2,aw 12 1 11,aS 13 .eql 12 4] (aZ 13 (aa [aI 14 3 1 2,aw 15 1 14,jv 16 4 15 0,a7 17 4 16,I 18 1,ch 19 107 17 18] (.region [aI 20 3 1 2,aw 21 1 20,jv 22 4 21 1,a7 23 4 22,I 24 1,ch 25 107 23 24])) .skip))))
@[simp] def yZ:List bX:=[]
def Pm:C:=(aa [bq 2 false] (.seq (aa [I 4 0,bR 5 (.slen (.t 4)),aS 6 .lss 5 1,I 7 6,bW 7 false 8 0,au 7 false (bR 9 (.slen (.t 8))),au 7 false (aS 10 .gtr 9 12),c6 11 7 10,I 12 11,bW 12 false 13 0,au 12 false (bR 14 (.sidx (.t 13) (eF 0))),au 12 false (bR 15 (.bin .lss false (.t 14) (.c (.int .u8 97)))),c6 16 12 15,I 17 16,bW 17 false 18 0,au 17 false (bR 19 (.sidx (.t 18) (eF 0))),au 17 false (bR 20 (.bin .gtr false (.t 19) (.c (.int .u8 122)))),c6 21 17 20] (aZ 21 (aa [bq 2 false] .ret) .skip)) (.seq (aa [cd 3 1] (.block 0 (.loop (.seq (aa [I 22 3,I 23 0,bR 24 (.slen (.t 23)),br 25 .lss 22 24] (aZ 25 .skip (.exit 0))) (.seq (.block 1 (aa [I 28 0,I 29 3,bR 30 (.sidx (.t 28) (.t 29)),bR 31 (.bin .geq false (.t 30) (.c (.int .u8 97))),I 32 31,bW 32 true 33 0,bW 32 true 34 3,au 32 true (bR 35 (.sidx (.t 33) (.t 34))),au 32 true (bR 36 (.bin .leq false (.t 35) (.c (.int .u8 122)))),dq 37 32 36,I 38 37,bW 38 false 39 0,bW 38 false 40 3,au 38 false (bR 41 (.sidx (.t 39) (.t 40))),au 38 false (bR 42 (.bin .geq false (.t 41) (.c (.int .u8 48)))),bW 38 false 43 42,bW 43 true 44 0,bW 43 true 45 3,au 43 true (bR 46 (.sidx (.t 44) (.t 45))),au 43 true (bR 47 (.bin .leq false (.t 46) (.c (.int .u8 57)))),au 38 false (dq 48 43 47),c6 49 38 48,I 50 49,bW 50 false 51 0,bW 50 false 52 3,au 50 false (bR 53 (.sidx (.t 51) (.t 52))),au 50 false (bR 54 (.bin .eql false (.t 53) (.c (.int .u8 45)))),c6 55 50 54,cJ 56 55] (aZ 56 (aa [bq 2 false] .ret) .skip))) (.region [I 26 3,aS 27 .add 26 1,I 3 27])))))) (aa [bq 2 true] .ret))))
@[simp] def Ho:List bX:=[.tmp 2]
def vV:C:=(aa [c8 2 0,cd 4 0] (.seq (aa [aI 6 0 1 2,aw 7 1 6] (.block 0 (aa [aS 9 .eql 7 1,I 8 9] (aZ 8 (aa [I 10 1,aI 11 1 1 2,aw 12 1 11,gj 13 10 [.t 12],bR 14 (.min2 (.t 13) (eF 5001)),I 4 14] .ret) (aa [aS 16 .eql 7 4,I 15 16] (aZ 15 (aa [aI 17 3 1 2,aw 18 1 17,jv 19 4 18 0,a7 20 4 19,I 21 1,ch 22 112 20 21,I 5 22] (.seq (aa [I 23 5,aS 24 .gtr 23 5000] (aZ 24 (aa [I 25 5,I 4 25] .ret) .skip)) (aa [I 26 5,bR 27 (.bin .add false (eF 1) (.t 26)),aI 28 3 1 2,aw 29 1 28,jv 30 4 29 1,a7 31 4 30,I 32 1,ch 33 112 31 32,br 34 .add 27 33,bR 35 (.min2 (.t 34) (eF 5001)),I 4 35] .ret))) .skip)))))) (aa [cd 4 1] .ret)))
@[simp] def vw:List bX:=[.tmp 4]
def P2:C:=(aa [cd 3 0] (.seq (aa [aw 7 1 1,I 8 0,gj 9 7 [.t 8],I 6 9,cC 10 0 6,cC 11 1 6,c1 4 dd,bN 4 4 10,I 5 11] (aa [I 12 5] (aZ 12 (aa [a7 13 4 4,dj 14 114 [.t 13,(eF 5000)],I 3 14] .ret) .skip))) (aa [cd 3 1] .ret)))
@[simp] def Wx:List bX:=[.tmp 3]
def PU:C:=(aa [c8 2 0,cd 4 0] (.seq (aa [I 7 1,aS 8 .lss 7 1] (aZ 8 (aa [cd 4 (-1)] .ret) .skip)) (.seq (aa [aI 9 0 1 2,aw 10 1 9,aS 11 .neq 10 4] (aZ 11 (.seq (aa [aI 12 3 1 2,aw 13 1 12,cz 14 13,aS 15 .neq 14 0] (aZ 15 (aa [cd 4 (-1)] .ret) .skip)) (.seq (aa [aI 16 0 1 2,aw 17 1 16] (.block 0 (aa [aS 19 .eql 17 0,I 18 19] (aZ 18 (aa [aI 20 1 1 2,aw 21 1 20,aS 22 .neq 21 0,I 23 22,au 23 false (aI 24 2 1 2),au 23 false (aw 25 1 24),xD 23 false 26 (.bin .neq false (.t 25) (.c (.str []))),c6 27 23 26] (aZ 27 (aa [cd 4 (-1)] .ret) .skip)) (aa [aS 29 .eql 17 1,I 28 29] (aZ 28 (aa [aI 30 1 1 2,aw 31 1 30,aS 32 .lss 31 0,I 33 32,au 33 false (aI 34 1 1 2),au 33 false (aw 35 1 34),au 33 false (aS 36 .gtr 35 100000),c6 37 33 36,I 38 37,au 38 false (aI 39 2 1 2),au 38 false (aw 40 1 39),xD 38 false 41 (.bin .neq false (.t 40) (.c (.str []))),c6 42 38 41] (aZ 42 (aa [cd 4 (-1)] .ret) .skip)) (aa [aS 44 .eql 17 2,I 43 44] (aZ 43 (aa [aI 45 1 1 2,aw 46 1 45,aS 47 .neq 46 0,I 48 47,au 48 false (aI 49 2 1 2),au 48 false (aw 50 1 49),au 48 false (cR 51 109 50),au 48 false (cJ 52 51),c6 53 48 52] (aZ 53 (aa [cd 4 (-1)] .ret) .skip)) (aa [aS 55 .eql 17 3,I 54 55] (aZ 54 (aa [aI 56 1 1 2,aw 57 1 56,aS 58 .lss 57 (-1000000000),I 59 58,au 59 false (aI 60 1 1 2),au 59 false (aw 61 1 60),au 59 false (aS 62 .gtr 61 1000000000),c6 63 59 62,I 64 63,au 64 false (aI 65 2 1 2),au 64 false (aw 66 1 65),xD 64 false 67 (.bin .neq false (.t 66) (.c (.str []))),c6 68 64 67] (aZ 68 (aa [cd 4 (-1)] .ret) .skip)) (aa [cd 4 (-1)] .ret))))))))))) (aa [cd 4 1] .ret))) .skip)) (.seq (aa [aI 69 1 1 2,aw 70 1 69,aS 71 .neq 70 0,I 72 71,au 72 false (aI 73 2 1 2),au 72 false (aw 74 1 73),xD 72 false 75 (.bin .neq false (.t 74) (.c (.str []))),c6 76 72 75,I 77 76,au 77 false (aI 78 3 1 2),au 77 false (aw 79 1 78),au 77 false (cz 80 79),au 77 false (aS 81 .neq 80 2),c6 82 77 81] (aZ 82 (aa [cd 4 (-1)] .ret) .skip)) (aa [aI 83 3 1 2,aw 84 1 83,jv 85 4 84 0,a7 86 4 85,I 87 1,aS 88 .sub 87 1,ch 89 114 86 88,I 5 89] (.seq (aa [I 90 5,aS 91 .lss 90 0] (aZ 91 (aa [cd 4 (-1)] .ret) .skip)) (aa [aI 92 3 1 2,aw 93 1 92,jv 94 4 93 1,a7 95 4 94,I 96 1,aS 97 .sub 96 1,I 98 5,br 99 .sub 97 98,ch 100 114 95 99,I 6 100] (.seq (aa [I 101 6,aS 102 .lss 101 0] (aZ 102 (aa [cd 4 (-1)] .ret) .skip)) (aa [I 103 5,bR 104 (.bin .add false (eF 1) (.t 103)),I 105 6,br 106 .add 104 105,I 4 106] .ret)))))))))
@[simp] def Hv:List bX:=[.tmp 4]
def xS:C:=(aa [c8 2 0,c1 4 dd] (.seq (aa [aI 7 0 1 2,aw 8 1 7] (.block 0 (aa [aS 10 .eql 8 1,I 9 10] (aZ 9 (.seq (aa [I 12 1,aI 13 1 1 2,aw 14 1 13,gj 15 12 [.t 14],I 11 15,cC 16 0 11,cC 17 1 11,c1 5 dd,bN 4 5 16,I 6 17] (aa [I 18 6] (aZ 18 (aa [a7 19 4 5,cR 20 136 19,bN 4 4 20] .ret) .skip))) (aa [a7 21 4 2,bN 4 4 21] .ret)) (aa [aS 23 .eql 8 4,I 22 23] (aZ 22 (.seq (.drawn false 38 [aI 24 3 1 2,aw 25 1 24,jv 26 4 25 0,a7 27 4 26,I 28 1,ch 29 115 27 28,aI 30 3 1 2,aw 31 1 30,jv 32 4 31 1,a7 33 4 32,I 34 1,ch 35 115 33 34,ch 36 154 29 35,bN 4 4 36]) .ret) .skip)))))) (aa [a7 37 4 2,bN 4 4 37] .ret)))
@[simp] def y0:List bX:=[.cell 4 true 4]
def Fh:C:=(aa [c8 2 0,c8 3 1,cd 4 0] (.seq (aa [aI 6 0 1 2,aw 7 1 6,aI 8 0 1 3,aw 9 1 8,br 10 .neq 7 9] (aZ 10 (aa [aI 11 0 1 2,aw 12 1 11,aI 13 0 1 3,aw 14 1 13,ch 15 155 12 14,I 4 15] .ret) .skip)) (.seq (aa [aI 16 1 1 2,aw 17 1 16,aI 18 1 1 3,aw 19 1 18,br 20 .neq 17 19] (aZ 20 (aa [aI 21 1 1 2,aw 22 1 21,aI 23 1 1 3,aw 24 1 23,ch 25 155 22 24,I 4 25] .ret) .skip)) (.seq (aa [aI 26 2 1 2,aw 27 1 26,aI 28 2 1 3,aw 29 1 28,br 30 .neq 27 29] (aZ 30 (.seq (aa [aI 31 2 1 2,aw 32 1 31,aI 33 2 1 3,aw 34 1 33,br 35 .lss 32 34] (aZ 35 (aa [cd 4 (-1)] .ret) .skip)) (aa [cd 4 1] .ret)) .skip)) (.seq (aa [aI 36 0 1 2,aw 37 1 36,aS 38 .neq 37 4] (aZ 38 (aa [cd 4 0] .ret) .skip)) (.seq (.seq (.drawn true 60 [aI 39 3 1 2,aw 40 1 39,jv 41 4 40 0,a7 42 4 41,aI 43 3 1 3,aw 44 1 43,jv 45 4 44 0,a7 46 4 45,ch 47 117 42 46,I 5 47]) (aa [I 48 5,aS 49 .neq 48 0] (aZ 49 (aa [I 50 5,I 4 50] .ret) .skip))) (.seq (.drawn true 60 [aI 51 3 1 2,aw 52 1 51,jv 53 4 52 1,a7 54 4 53,aI 55 3 1 3,aw 56 1 55,jv 57 4 56 1,a7 58 4 57,ch 59 117 54 58,I 4 59]) .ret)))))))
@[simp] def Hw:List bX:=[.tmp 4]
def Je:C:=(aa [c8 1 0,c1 2 dd] (.seq (aa [aI 3 0 1 1,aw 4 1 3,aS 5 .neq 4 4] (aZ 5 (aa [aI 6 0 1 1,aw 7 1 6,aI 8 1 1 1,aw 9 1 8,aI 10 2 1 1,aw 11 1 10,hD 12 dd [(0,1,(.t 7)),(1,1,(.t 9)),(2,1,(.t 11))],bN 4 2 12] .ret) .skip)) (.seq (.drawn true 25 [aI 13 3 1 1,aw 14 1 13,jv 15 4 14 0,a7 16 4 15,cR 17 136 16,aI 18 3 1 1,aw 19 1 18,jv 20 4 19 1,a7 21 4 20,cR 22 136 21,eE 23 4 36 [.t 17,.t 22],hD 24 dd [(0,1,(eF 4)),(3,1,(.t 23))],bN 4 2 24]) .ret)))
@[simp] def akn:List bX:=[.cell 2 true 4]
def PY:C:=(aa [c8 2 0,c8 3 1,c1 4 dd] (aa [a7 5 4 2,a7 6 4 3,eE 7 4 36 [.t 5,.t 6],hD 8 dd [(0,1,(eF 4)),(3,1,(.t 7))],bN 4 4 8] .ret))
@[simp] def Wv:List bX:=[.cell 4 true 4]
def PX:C:=(aa [cd 4 0] (.seq (aa [I 5 0,I 6 1,br 7 .lss 5 6] (aZ 7 (aa [cd 4 (-1)] .ret) .skip)) (.seq (aa [I 8 0,I 9 1,br 10 .gtr 8 9] (aZ 10 (aa [cd 4 1] .ret) .skip)) (aa [cd 4 0] .ret))))
@[simp] def Wu:List bX:=[.tmp 4]
def P4:C:=(aa [e4 2 1] (aa [cN (.bslm 5 (some 306) 1 3 []),I 3 5] (.seq (aa [I 6 0,cN (.range 7 none (.t 6))] (.block 0 (.loop (aa [⟨none,.next 8 (.t 7)⟩,cC 9 0 8] (.seq (aZ 9 .skip (.exit 0)) (.block 1 (aa [bR 10 (.ment (.t 7)),cC 11 0 10,I 4 11] (.region [I 12 3,I 13 4,eE 14 1 3 [.t 13],cN (.appm 15 none 1 3 (.t 12) (.t 14)),I 3 15])))))))) (aa [I 16 3,cR 17 190 16] (.seq (.pub 3 (.region [I 18 3,I 2 18])) .ret)))))
@[simp] def Wy:List bX:=[.tmp 2]
def bC:List (Nat×dz):=[
 (3,⟨1,8,.int .i64,.int .i64 0⟩),
 (9,⟨1,16,.str,.str []⟩),
 (23,⟨1,24,.slice 54,.slice 5 .nil []⟩),
 (34,⟨1,24,.slice 36,.slice 4 .nil []⟩),
 (36,⟨4,56,.struct [(0,3),(1,3),(2,9),(3,34)],.agg [.int .i64 0,.int .i64 0,.str [],.slice 4 .nil []]⟩),
 (51,⟨1,8,.map 3 4,.junk⟩),
 (54,⟨5,64,.struct [(0,3),(1,36)],.agg [.int .i64 0,.int .i64 0,.int .i64 0,.str [],.slice 4 .nil []]⟩),
 (92,⟨1,8,.other,.junk⟩),
 (97,⟨1,24,.slice 3,.slice 1 .nil []⟩),
 (117,⟨1,8,.int .u64,.int .u64 0⟩)]
theorem mixed:az.follows .mixedOrders=true:=by kernel_rfl
theorem bz{bC:List (Nat×dz)}(aM:fI az bC=true){f:FuncId}{fn:Func}(aR:az.funcs[f]? =some fn){c:C}{fl:List bX}{n:Nat}(eA:b7 bC c fl n fn=true){args:List ai}{r:ai}(he:gS args->c3 az [] c (bu fl r) ⟨kh 0 args,[],[],0,[]⟩)(av:args.length<=n:=by simp)(aJ:aG (fun _=>eW) r:=by simp[aG]):bZ az f args r:=bZ.mk mixed aM aR eA av aJ he
theorem fJ:fI az bC=true:=by kernel_rfl
theorem ail:b7 bC PN Wp 2 Tryz.f24=true:=by kernel_rfl
theorem abE:az.funcs[(24:Nat)]? =some Tryz.f24:=Tryz.func24
theorem aiw:b7 bC PZ Ww 2 Tryz.f29=true:=by kernel_rfl
theorem abP:az.funcs[(29:Nat)]? =some Tryz.f29:=Tryz.func29
theorem DM:b7 bC zF akK 1 Tryz.f37=true:=by kernel_rfl
theorem Co:az.funcs[(37:Nat)]? =some Tryz.f37:=Tryz.func37
theorem aiK:b7 bC Qd WA 2 Tryz.f57=true:=by kernel_rfl
theorem ab3:az.funcs[(57:Nat)]? =some Tryz.f57:=Tryz.func57
theorem aim:b7 bC PO Wq 3 Tryz.f58=true:=by kernel_rfl
theorem abF:az.funcs[(58:Nat)]? =some Tryz.f58:=Tryz.func58
theorem aiy:b7 bC P1 MI 2 Tryz.f60=true:=by kernel_rfl
theorem abR:az.funcs[(60:Nat)]? =some Tryz.f60:=Tryz.func60
theorem aix:b7 bC P0 MH 2 Tryz.f61=true:=by kernel_rfl
theorem abQ:az.funcs[(61:Nat)]? =some Tryz.f61:=Tryz.func61
theorem ah4:b7 bC Px Hp 1 Tryz.f62=true:=by kernel_rfl
theorem abn:az.funcs[(62:Nat)]? =some Tryz.f62:=Tryz.func62
theorem aij:b7 bC PL Wn 2 Tryz.f64=true:=by kernel_rfl
theorem abC:az.funcs[(64:Nat)]? =some Tryz.f64:=Tryz.func64
theorem ajn:b7 bC QQ WR 2 Tryz.f83=true:=by kernel_rfl
theorem acJ:az.funcs[(83:Nat)]? =some Tryz.f83:=Tryz.func83
theorem VP:b7 bC Jr WV 1 Tryz.f84=true:=by kernel_rfl
theorem R5:az.funcs[(84:Nat)]? =some Tryz.f84:=Tryz.func84
theorem aiD:b7 bC P6 akq 1 Tryz.f87=true:=by kernel_rfl
theorem abW:az.funcs[(87:Nat)]? =some Tryz.f87:=Tryz.func87
theorem ah3:b7 bC Pw We 1 Tryz.f89=true:=by kernel_rfl
theorem abm:az.funcs[(89:Nat)]? =some Tryz.f89:=Tryz.func89
theorem A8:b7 bC xR yZ 2 Tryz.f107=true:=by kernel_rfl
theorem zQ:az.funcs[(107:Nat)]? =some Tryz.f107:=Tryz.func107
theorem ahU:b7 bC Pm Ho 1 Tryz.f109=true:=by kernel_rfl
theorem abd:az.funcs[(109:Nat)]? =some Tryz.f109:=Tryz.func109
theorem yT:b7 bC vV vw 2 Tryz.f112=true:=by kernel_rfl
theorem xX:az.funcs[(112:Nat)]? =some Tryz.f112:=Tryz.func112
theorem aiz:b7 bC P2 Wx 2 Tryz.f113=true:=by kernel_rfl
theorem abS:az.funcs[(113:Nat)]? =some Tryz.f113:=Tryz.func113
theorem air:b7 bC PU Hv 2 Tryz.f114=true:=by kernel_rfl
theorem abK:az.funcs[(114:Nat)]? =some Tryz.f114:=Tryz.func114
theorem A9:b7 bC xS y0 2 Tryz.f115=true:=by kernel_rfl
theorem zR:az.funcs[(115:Nat)]? =some Tryz.f115:=Tryz.func115
theorem Mm:b7 bC Fh Hw 2 Tryz.f117=true:=by kernel_rfl
theorem JW:az.funcs[(117:Nat)]? =some Tryz.f117:=Tryz.func117
theorem VF:b7 bC Je akn 1 Tryz.f136=true:=by kernel_rfl
theorem RV:az.funcs[(136:Nat)]? =some Tryz.f136:=Tryz.func136
theorem aiv:b7 bC PY Wv 2 Tryz.f154=true:=by kernel_rfl
theorem abO:az.funcs[(154:Nat)]? =some Tryz.f154:=Tryz.func154
theorem aiu:b7 bC PX Wu 2 Tryz.f155=true:=by kernel_rfl
theorem abN:az.funcs[(155:Nat)]? =some Tryz.f155:=Tryz.func155
theorem aiB:b7 bC P4 Wy 1 Tryz.f166=true:=by kernel_rfl
theorem abU:az.funcs[(166:Nat)]? =some Tryz.f166:=Tryz.func166
end
end Go.Proofs.YtohaalphocaebaaGreatDoor
namespace Go.Pv
section
open Go Go.RowKit
theorem ec{α:Type}{l:List α}{i:Nat}(h:i<l.length):∃b,l[i]? =some b/\∀h,(l[i]'h)=b:=⟨l[i],cf h,fun _=>rfl⟩
def Nl(st:bm)(i:eh):Prop:=match mv st i with|some (c,_)=>c|none=>eW
def Nn(st:bm)(i:eh):bm:=match mv st i with|some (_,s)=>s|none=>st
def ES(P:cL)(r:List c9)(K:bm->Prop)(st:bm):Prop:=h8 P r st K
def zv(P:cL)(ob:List aL)(c:C)(Q:Exit->bm->Prop)(st:bm):Prop:=c3 P ob c Q st
def qb(P:cL)(v:ai)(s:Nat)(w:Bool)(i:ee)(r:List c9)(st:bm)(K:bm->Prop):Prop:=
 match v with
 | .bool b=>(b=w->h8 P (⟨none,i⟩::r) {st with t:=put s (.bool w) st.t} K)/\(b= !w->h8 P r {st with t:=eR i.dst (.tuple []) (put s (.bool !w) st.t)} K)
 | .tuple []=>h8 P r {st with t:=eR i.dst (.tuple []) st.t} K
 |_=>eW
def uK(P:cL)(ob:List aL)(v:ai)(x:dt)(t e:C)(Q:Exit->bm->Prop)(st:bm):Prop:=
 match v with
 | .bool b=>(b=true->c3 P ob t Q (sF st x true))/\(b=false->c3 P ob e Q (sF st x false))
 |_=>eW
def JP(P:cL)(v:ai)(d:Option Nat)(xs:List ai)(r:List c9)(st:bm)(K:bm->Prop):Prop:=
 match v with
 | .func n dn=>cW P n (dv (xs++dn)) st d (ES P r K)
 |_=>eW
section
variable {P:cL} {ob:List aL} {st:bm} {K:bm->Prop} {r:List c9} {Q:Exit->bm->Prop} {a b c t e:C}
theorem aaW:h8 P [] st K=K st:=rfl
theorem aaX{i:eh}:h8 P (⟨none,.s i⟩::r) st K=(Nl st i/\h8 P r (Nn st i) K):=by
 simp only[h8,uJ,Nl,Nn];cases mv st i with
 |none=>simp
 |some x=>rfl
theorem aaT{d:Option Nat}{f:dt}{xs:List dt}:h8 P (⟨none,.call d f xs⟩::r) st K=JP P (ct st.t f) d (xs.map (ct st.t)) r st K:=by simp only[h8,uJ,JP];rfl
theorem aaV{d:Nat}{x:dt}:h8 P (⟨none,.next d x⟩::r) st K=tl st d (ct st.t x) (ES P r K):=by simp only[h8,uJ];rfl
def xI(P:cL)(ob:List aL)(c:C)(Q:Exit->bm->Prop):Option bm->Prop
 |some st=>c3 P ob c Q st
 |none=>eW
theorem Y1:xI P ob c Q (some st)=c3 P ob c Q st:=rfl
theorem aay{s:Nat}:c3 P ob (.pub s c) Q st=xI P ob c Q (w8 st s):=by simp only[c3];cases w8 st s<;>rfl
theorem aau{pP:Bool}{s:Nat}:c3 P ob (.fg pP s c) Q st=c3 P ob c Q {st with t:=put s (zU pP (get s st.t)) st.t}:=rfl
theorem aav{pP:Bool}{s:Nat}{d:C}:c3 P ob (.seq (.fg pP s c) d) Q st=c3 P ob (.seq c d) Q {st with t:=put s (zU pP (get s st.t)) st.t}:=rfl
theorem aaw{fW:Bool}{s:Nat}:c3 P ob (.fz fW s c) Q st=xI P ob c Q (wb st fW s):=by simp only[c3];cases wb st fW s<;>rfl
theorem aax{fW:Bool}{s:Nat}{d:C}:c3 P ob (.seq (.fz fW s c) d) Q st=xI P ob (.seq c d) Q (wb st fW s):=by simp only[c3];cases wb st fW s<;>rfl
theorem aaz{s:Nat}:c3 P ob (.pubB s c) Q st=xI P ob c Q (w7 st s):=by simp only[c3];cases w7 st s<;>rfl
theorem aaS{n:Nat}{dn:List ai}{d:Option Nat}{xs:List ai}:JP P (.func n dn) d xs r st K=cW P n (dv (xs++dn)) st d (ES P r K):=rfl
theorem aaU{s:Nat}{w:Bool}{i:ee}:h8 P (⟨some (s,w),i⟩::r) st K=qb P (get s st.t) s w i r st K:=by simp only[h8,qb];try rfl
theorem aa2{s:Nat}{i:ee}:qb P (.bool true) s true i r st K=h8 P (⟨none,i⟩::r) {st with t:=put s (.bool true) st.t} K:=by simp[qb]
theorem aaY{s:Nat}{i:ee}:qb P (.bool false) s false i r st K=h8 P (⟨none,i⟩::r) {st with t:=put s (.bool false) st.t} K:=by simp[qb]
theorem aa1{s:Nat}{i:ee}:qb P (.bool true) s false i r st K=h8 P r {st with t:=eR i.dst (.tuple []) (put s (.bool true) st.t)} K:=by simp[qb]
theorem aaZ{s:Nat}{i:ee}:qb P (.bool false) s true i r st K=h8 P r {st with t:=eR i.dst (.tuple []) (put s (.bool false) st.t)} K:=by simp[qb]
theorem aa0{s:Nat}{w:Bool}{i:ee}:qb P (.tuple []) s w i r st K=h8 P r {st with t:=eR i.dst (.tuple []) st.t} K:=by simp[qb]
theorem bM{x:Bool}{s:Nat}{w:Bool}{i:ee}(J:x=w->h8 P (⟨none,i⟩::r) {st with t:=put s (.bool w) st.t} K)(U:x= !w->h8 P r {st with t:=eR i.dst (.tuple []) (put s (.bool !w) st.t)} K):qb P (.bool x) s w i r st K:=⟨J,U⟩
theorem aaj:c3 P ob (.seq (.seq a b) c) Q st=c3 P ob (.seq a (.seq b c)) Q st:=by simp only[c3];congr 1;funext e st';cases e<;>rfl
theorem aaE:c3 P ob (.seq .skip c) Q st=c3 P ob c Q st:=rfl
theorem aaC:c3 P ob (.seq .ret c) Q st=Q .ret st:=rfl
theorem aas{n:Nat}:c3 P ob (.seq (.exit n) c) Q st=Q (.exit n) st:=rfl
theorem aaF:c3 P ob .skip Q st=Q .normal st:=rfl
theorem aaD:c3 P ob .ret Q st=Q .ret st:=rfl
theorem aat{n:Nat}:c3 P ob (.exit n) Q st=Q (.exit n) st:=rfl
theorem aaA{gs:List c9}:c3 P ob (.seq (.region gs) c) Q st=h8 P gs st (zv P ob c Q):=rfl
theorem aaB{gs:List c9}:c3 P ob (.region gs) Q st=h8 P gs st (Q .normal):=rfl
theorem aam{x:dt}:c3 P ob (.seq (.cond x t e) c) Q st=uK P ob (ct st.t x) x (.seq t c) (.seq e c) Q st:=by simp only[c3,uK];try rfl
theorem aan{x:dt}:c3 P ob (.cond x t e) Q st=uK P ob (ct st.t x) x t e Q st:=by simp only[c3,uK];try rfl
theorem aaH{x:dt}:uK P ob (.bool true) x t e Q st=c3 P ob t Q (sF st x true):=by simp[uK]
theorem aaG{x:dt}:uK P ob (.bool false) x t e Q st=c3 P ob e Q (sF st x false):=by simp[uK]
theorem bJ{v:Bool}{x:dt}(J:v=true->c3 P ob t Q (sF st x true))(U:v=false->c3 P ob e Q (sF st x false)):uK P ob (.bool v) x t e Q st:=⟨J,U⟩
def zr(P:cL)(ob:List aL)(id:Nat)(c:C)(Q:Exit->bm->Prop)(e:Exit)(st:bm):Prop:=
 match e with
 | .normal=>c3 P ob c Q st
 | .exit j=>if j=id then c3 P ob c Q st else Q (.exit j) st
 |e=>Q e st
theorem aak{id:Nat}:c3 P ob (.seq (.block id a) c) Q st=c3 P ob a (zr P ob id c Q) st:=by
 simp only[c3];congr 1;funext e st';cases e with
 |exit j=>rfl
 |_=>rfl
theorem aal{id:Nat}:c3 P ob (.block id a) Q st=c3 P ob a (zr P ob id .skip Q) st:=by
 simp only[c3];congr 1;funext e st';cases e with
 |exit j=>simp only[zr];by_cases af:j=id<;>simp[af,c3]
 |_=>rfl
theorem YP{id:Nat}:zr P ob id c Q .normal st=zv P ob c Q st:=rfl
theorem YO{id j:Nat}:zr P ob id c Q (.exit j) st=if j=id then zv P ob c Q st else Q (.exit j) st:=rfl
theorem YQ{id:Nat}:zr P ob id c Q .ret st=Q .ret st:=rfl
def bQ(ob:List aL)(hl:Nat->bm->Prop)(k:Nat)(Q:Exit->bm->Prop)(e:Exit)(st:bm):Prop:=
 match e with
 | .normal=> ∃bI o5,bI<k/\iO ob st o5/\hl bI o5
 |e=>Q e st
theorem EO{hl:Nat->bm->Prop}{k:Nat}:bQ ob hl k Q .normal st= ∃bI o5,bI<k/\iO ob st o5/\hl bI o5:=rfl
theorem YW{hl:Nat->bm->Prop}{k n:Nat}:bQ ob hl k Q (.exit n) st=Q (.exit n) st:=rfl
theorem YX{hl:Nat->bm->Prop}{k:Nat}:bQ ob hl k Q .ret st=Q .ret st:=rfl
theorem n5(hl:Nat->bm->Prop)(m:Nat)(xi:bm)(hw:iO ob st xi)(bE:hl m xi)(h:∀k s,hl k s->(∀i,gg (get i s.t))->(∀j cs,look j s.b=some cs->hV cs=true->gE cs)->c3 P ob a (bQ ob hl k Q) s):c3 P ob (.loop a) Q st:=by
 simp only[c3];refine⟨hl,m,xi,hw,bE,fun k s J U ar=>?_⟩;have:=h k s J U ar;have bF:(bQ ob hl k Q)=(fun e ah=>match e with| .normal=> ∃bI o5,bI<k/\iO ob ah o5/\hl bI o5|e=>Q e ah):=by funext e ah;cases e<;>rfl
 rw[bF]at this;exact this
end
/-Regions cQ draw lz order. -/
def Nj(n0:Nat)(st:bm)(i:eh):Prop:=match eD (pB n0 i) st.n (pB n0 i::st.o) st i with|some (c,_)=>c|none=>eW
def Nk(n0:Nat)(st:bm)(i:eh):bm:=match eD (pB n0 i) st.n (pB n0 i::st.o) st i with|some (_,s)=>s|none=>st
def Iz(P:cL)(q:Bool)(nw:List Nat)(n0:Nat)(r:List c9)(K:bm->Prop)(st:bm):Prop:=hZ P q nw n0 r st K
def qa(P:cL)(q:Bool)(nw:List Nat)(n0:Nat)(v:ai)(s:Nat)(w:Bool)(i:ee)(r:List c9)(st:bm)(K:bm->Prop):Prop:=
 match v with
 | .bool b=>(b=w->hZ P q nw n0 (⟨none,i⟩::r) {st with t:=put s (.bool w) st.t} K)/\(b= !w->hZ P q nw n0 r {st with t:=eR i.dst (.tuple []) (put s (.bool !w) st.t)} K)
 | .tuple []=>hZ P q nw n0 r {st with t:=eR i.dst (.tuple []) st.t} K
 |_=>eW
def JO(P:cL)(q:Bool)(nw:List Nat)(n0:Nat)(v:ai)(d:Option Nat)(xs:List ai)(r:List c9)(st:bm)(K:bm->Prop):Prop:=
 match v with
 | .func n dn=>gW P q nw n (dv (xs++dn)) st d (Iz P q nw n0 r K)
 |_=>eW
section
variable {P:cL} {ob:List aL} {st:bm} {K:bm->Prop} {r:List c9} {Q:Exit->bm->Prop} {c:C} {q:Bool} {nw:List Nat} {n0 N:Nat}
theorem aaL:hZ P q nw n0 [] st K=K st:=rfl
theorem aaM{i:eh}:hZ P q nw n0 (⟨none,.s i⟩::r) st K=(mc q nw n0 st i/\Nj n0 st i/\hZ P q nw n0 r (Nk n0 st i) K):=by
 simp only[hZ,kD,Nj,Nk];cases eD (pB n0 i) st.n (pB n0 i::st.o) st i with
 |none=>simp
 |some x=>rfl
theorem aaJ{d:Option Nat}{f:dt}{xs:List dt}:hZ P q nw n0 (⟨none,.call d f xs⟩::r) st K=JO P q nw n0 (ct st.t f) d (xs.map (ct st.t)) r st K:=by simp only[hZ,kD,JO];rfl
theorem aaI{n:Nat}{dn:List ai}{d:Option Nat}{xs:List ai}:JO P q nw n0 (.func n dn) d xs r st K=gW P q nw n (dv (xs++dn)) st d (Iz P q nw n0 r K):=rfl
theorem aaK{s:Nat}{w:Bool}{i:ee}:hZ P q nw n0 (⟨some (s,w),i⟩::r) st K=qa P q nw n0 (get s st.t) s w i r st K:=by simp only[hZ,qa];try rfl
theorem aaR{s:Nat}{i:ee}:qa P q nw n0 (.bool true) s true i r st K=hZ P q nw n0 (⟨none,i⟩::r) {st with t:=put s (.bool true) st.t} K:=by simp[qa]
theorem aaN{s:Nat}{i:ee}:qa P q nw n0 (.bool false) s false i r st K=hZ P q nw n0 (⟨none,i⟩::r) {st with t:=put s (.bool false) st.t} K:=by simp[qa]
theorem aaQ{s:Nat}{i:ee}:qa P q nw n0 (.bool true) s false i r st K=hZ P q nw n0 r {st with t:=eR i.dst (.tuple []) (put s (.bool true) st.t)} K:=by simp[qa]
theorem aaO{s:Nat}{i:ee}:qa P q nw n0 (.bool false) s true i r st K=hZ P q nw n0 r {st with t:=eR i.dst (.tuple []) (put s (.bool false) st.t)} K:=by simp[qa]
theorem aaP{s:Nat}{w:Bool}{i:ee}:qa P q nw n0 (.tuple []) s w i r st K=hZ P q nw n0 r {st with t:=eR i.dst (.tuple []) st.t} K:=by simp[qa]
theorem bL{x:Bool}{s:Nat}{w:Bool}{i:ee}(J:x=w->hZ P q nw n0 (⟨none,i⟩::r) {st with t:=put s (.bool w) st.t} K)(U:x= !w->hZ P q nw n0 r {st with t:=eR i.dst (.tuple []) (put s (.bool !w) st.t)} K):qa P q nw n0 (.bool x) s w i r st K:=⟨J,U⟩
theorem aao{gs:List c9}:c3 P ob (.seq (.drawn q N gs) c) Q st=hZ P q [] st.n gs st (uq (st.n+N) st.o (zv P ob c Q)):=rfl
theorem aap{gs:List c9}:c3 P ob (.drawn q N gs) Q st=hZ P q [] st.n gs st (uq (st.n+N) st.o (Q .normal)):=rfl
theorem aaq{gs:List c9}:c3 P ob (.seq (.drawnW nw N gs) c) Q st=((∀j∈nw,.obj j∉st.o)/\hZ P false nw st.n gs st (uq (st.n+N) (nw.map aL.obj++st.o) (zv P ob c Q))):=rfl
theorem aar{gs:List c9}:c3 P ob (.drawnW nw N gs) Q st=((∀j∈nw,.obj j∉st.o)/\hZ P false nw st.n gs st (uq (st.n+N) (nw.map aL.obj++st.o) (Q .normal))):=rfl
theorem gW.val{n:Nat}{args:List ai}{d:Option Nat}{r:ai}(ad:aP (fun _=>eW) args)(aR:bZ P n args r)(h:K {st with t:=eR d r st.t}):gW P q nw n args st d K:=by
 refine .inr ⟨⟨[],[]⟩,⟨[],[]⟩,r,none,fun k cs ad=>by simp[look]at ad,fun k cs ad=>by simp[look]at ad,yP,yP,⟨fun k h=>.inl h,fun k h=>.inl h,fun k h=>h,fun k h=>h,fun k h=>by cases h⟩,j9 (fun _ h=>h.elim) _ ad,aR,fun _=>⟨rfl,rfl⟩,?_⟩;have:({after st ⟨[],[]⟩ ⟨[],[]⟩ d r with o:=st.o}:bm)={st with t:=eR d r st.t}:=by simp[after,Om]
 rw[this];exact h
theorem aE{n:Nat}{args:List ai}{d:Option Nat}{r:ai}(aR:bZ P n args r)(h:K {st with t:=eR d r st.t})(ad:aP (fun _=>eW) args:=by simp):gW P q nw n args st d K:=gW.val ad aR h
end
section
variable {k:IntKind} {n:Int} {b:Bool} {s:List UInt8} {sz:Nat} {tag:BZ} {xs:List ai} {key:aL} {off f:Nat} {x:ai}
@[simp]theorem arz:eO (.int k n)=true:=rfl
@[simp]theorem arl:eO (.bool b)=true:=rfl
@[simp]theorem arG:eO (.str s)=true:=rfl
@[simp]theorem arF:eO (.slice sz tag xs)=true:=rfl
@[simp]theorem ari:eO (.agg xs)=true:=rfl
@[simp]theorem arD:eO (.ptr key off)=true:=rfl
@[simp]theorem arv:eO (.eptr x)=true:=rfl
@[simp]theorem ary{t:Nat}:eO (.iface t x)=true:=rfl
@[simp]theorem aov{t:Nat}:cells (.iface t x)=[.iface t x]:=rfl
@[simp]theorem aro{a:Option Addr}{n c:Nat}:eO (.cst (.slice a n c))=true:=rfl
@[simp]theorem arp{s}:eO (.cst (.string s))=true:=rfl
@[simp]theorem arC:eO .nilp=true:=rfl
@[simp]theorem arw:eO (.func f xs)=true:=rfl
@[simp]theorem arx:eO (.gmap key)=true:=rfl
@[simp]theorem arE{n:Nat}:eO (.row sz key n)=true:=rfl
@[simp]theorem aoC{n:Nat}:cells (.row sz key n)=[.row sz key n]:=rfl
@[simp]theorem aow:cells (.int k n)=[.int k n]:=rfl
@[simp]theorem aom:cells (.bool b)=[.bool b]:=rfl
@[simp]theorem aoE:cells (.str s)=[.str s]:=rfl
@[simp]theorem aoD:cells (.slice sz tag xs)=[.slice sz tag xs]:=rfl
@[simp]theorem aoj:cells (.agg xs)=xs:=rfl
@[simp]theorem aoB:cells (.ptr key off)=[.ptr key off]:=rfl
@[simp]theorem aos:cells (.eptr x)=[.eptr x]:=rfl
@[simp]theorem aoA:cells .nilp=[.nilp]:=rfl
@[simp]theorem aot:cells (.func f xs)=[.func f xs]:=rfl
@[simp]theorem aou:cells (.gmap key)=[.gmap key]:=rfl
end
section
variable {b:List (aL×List ai)} {e:List (aL×fN)} {agg:Bool} {sz off:Nat} {k:aL} {p:ai} {cs xs ba:List ai} {fp:IntKind} {n i:Int} {m j:Nat} {tag:BZ} {s:List UInt8} {O5:Bool} {lo hi:Option ai}
@[simp]theorem aqp{dK:Nat}{f:Nat}:mZ b e agg sz (.rptr dK k m j f)=y8 agg sz dK m j f (look k e):=rfl
@[simp]theorem aqo:mZ b e agg sz (.ptr k off)=(match look k b with
  |some cs=>if agg then some (hV cs=true/\off+sz<=cs.length,.agg ((cs.drop off).take sz))else(cs[off]?).map fun p=>(hV cs=true,p)
  |none=>none):=rfl
@[simp]theorem aqn:mZ b e agg sz (.eptr p)=if agg then some (isAgg sz p,p)else some (eO p=true/\cells p=[p],p):=rfl
@[simp]theorem ao2:Cw agg sz (.eptr p)=if agg then some (isAgg sz p,p)else some (eO p=true/\cells p=[p],p):=rfl
@[simp]theorem aoU{o:Nat}:qW off agg sz (.ptr k o)=some (True,.ptr k (o+off)):=rfl
@[simp]theorem aoV{dK f:Nat}:qW off agg sz (.rptr dK k m j f)=some (True,.rptr dK k m j (f+off)):=rfl
@[simp]theorem aoO:qW off agg sz (.eptr (.agg cs))=if agg then some (off+sz<=cs.length,.eptr (.agg ((cs.drop off).take sz)))else(cs[off]?).map fun p=>(eO p=true/\cells p=[p],.eptr p):=rfl
@[simp]theorem aoX:uN off agg sz (.agg cs)=if agg then some (off+sz<=cs.length,.agg ((cs.drop off).take sz))else(cs[off]?).map fun p=>(True,p):=rfl
@[simp]theorem apE{dK:Nat}:AF sz (.slice dK tag xs) (.int fp i)=if dK=sz then some (0<=i/\i<xs.length,.eptr (xs.getD i.toNat .junk))else none:=rfl
@[simp]theorem apD{dK:Nat}:AF sz (.row dK k m) (.int fp i)=if dK=sz then some (0<=i/\i<m,.rptr dK k m i.toNat 0)else none:=rfl
@[simp]theorem aqm{dK:Nat}:AQ (.slice dK tag xs)=some (True,.int .i64 xs.length):=rfl
@[simp]theorem aql{dK:Nat}:AQ (.row dK k m)=some (True,.int .i64 m):=rfl
@[simp]theorem aqk{a:Option Addr}{n c:Nat}:AQ (.cst (.slice a n c))=some (True,.int .i64 n):=rfl
@[simp]theorem arf{s}:Em (.cst (.string s))=some (True,.int .i64 s.size):=rfl
@[simp]theorem arh:Em (.str s)=some (True,.int .i64 s.length):=rfl
@[simp]theorem aoN:zP j (.tuple ba)=(ba[j]?).map fun p=>(True,p):=rfl
@[simp]theorem aqR:A2 (.ptr k off)=some (True,.ptr k off):=rfl
@[simp]theorem aqP:A2 (.eptr p)=some (True,.eptr p):=rfl
@[simp]theorem aqQ:A2 (.func j cs)=some (True,.func j cs):=rfl
@[simp]theorem aqT:G9 (.bool O5)=some (True,.bool (!O5)):=rfl
@[simp]theorem ard:H5 (.str s) (.int fp i)=some (0<=i/\i<s.length,.int .u8 (s.getD i.toNat 0).toNat):=rfl
@[simp]theorem arH:Ib (.str s) lo hi=(match rb 0 lo,rb s.length hi with
  |some l,some h=>some (0<=l/\l<=h/\h<=s.length,.str ((s.take h.toNat).drop l.toNat))
  |_,_=>none):=rfl
@[simp]theorem aqq{dK:Nat}:GU sz (.slice dK tag xs) lo hi=(if dK=sz then match rb 0 lo,rb xs.length hi with
  |some l,some h=>some (0<=l/\l<=h/\h<=xs.length,.slice sz .no ((xs.take h.toNat).drop l.toNat))
  |_,_=>none else none):=rfl
theorem L6{f:aL->Option (List ai)}{cg:jO}{z q:ai}{ok:Bool}:nb f cg z ok (.gmap k) q=(match f k with
  |some (.hdm _ _::kvs)=>if vf cg q=false then none else match tU cg q kvs with
   |some (some v)=>some (True,if ok then .tuple [v,.bool true]else v)
   |some none=>some (True,if ok then .tuple [z,.bool false]else z)
   |none=>none
  |_=>none):=rfl
theorem U6{f:aL->Option (List ai)}:pQ f (.ptr k 0)=(match f k with
  |some [.hdi _ seen last,.gmap mk]=>match f mk with
   |some (.hdm clock borns::kvs)=>match seen.getLast? with
    |some n=>(na n borns kvs).map fun p=>(clock=last,p)
    |none=>none
   |_=>none
  |_=>none):=rfl
@[simp]theorem arb{dK f n' el ju:Nat}:y8 agg sz dK m j f (some ⟨n',el,ju,some xs⟩)=(if n'=m/\ju=dK then
   (match xs[j]? with
    |some p=>if agg then some (eO p=true/\f+sz<=(cells p).length,.agg (((cells p).drop f).take sz))else((cells p)[f]?).map fun q=>(eO p=true,q)
    |none=>none)else none):=rfl
end
attribute [simp] aaj aaA aak aam aaE aaC aas aaF aaD aat aaB aal aan zv YP YO YQ YW YX aaW aaX aaT aaS aaU
 aa2 aaY aa1 aaZ aa0 aaH aaG Nl Nn mv hs kh ct get put jZ qq nM nN cA rb cr cG Ic ov uG Hk G5 Fu G3
 look eR eh.dst ee.dst sF ES ta dv ey aG aP
 aao aap aaq aar aaL aaM aaJ aaI aaK aaR aaN aaQ aaO aaP Nj Nk eD pB mc x1 fV.loadO uq Iz yz hV tc aaV aay aaz aau aav aaw aax wb Ka th zU Y1 w8 DZ w7 rl pY iB GY
theorem aD{P:cL}{n:Nat}{args:List ai}{st:bm}{d:Option Nat}{K:bm->Prop}{r:ai}(aR:bZ P n args r)(h:K {st with t:=eR d r st.t})(ad:aP (fun _=>eW) args:=by simp):cW P n args st d K:=cW.val ad aR h
theorem aj{a b:Prop}(ab:b)(bk:a:=by first|omega|(unfold oZ;omega)|(unfold lim;omega)):a/\b:=⟨bk,ab⟩
theorem cc{p:Prop}(h:eW:=by first|contradiction|omega):p:=h.elim
theorem cD{p:Prop}(h:p:=by(try simp[*]);(repeat' first|with_reducible refine aj ?_|with_reducible refine aD (by assumption) ?_|with_reducible refine aE (by assumption) ?_|simp[*]);(all_goals first|done|(simp[bu,aW,aY,aV, *];done))):p:=h
end
section
open Go Go.RowKit
structure dR (s:cS):Prop where
 obj:jc s
 kb:∀k cs,look k s.b=some cs->aP (inObs s) cs
 ke:∀k o,look k s.e=some o->dV (inObs s) o
structure Same (s ah:cS):Prop where
 b:∀k,(look k s.b).isSome=(look k ah.b).isSome
 e:∀k,(look k s.e).isSome=(look k ah.e).isSome
theorem Same.refl(s:cS):Same s s:=⟨fun _=>rfl,fun _=>rfl⟩
theorem Same.inObs{s ah:cS}(h:Same s ah)(k:aL):inObs s k↔inObs ah k:=by unfold Pv.inObs;rw[h.b,h.e]
theorem vm{α:Type}{k:aL}{x:α}:∀{l:List (aL×α)},(k,x)∈l->(look k l).isSome
 |(i,y)::r,h=>by
  simp only[look];split
  ·rfl
  ·rename_i cK;rcases fD.1 h with h|h
   ·cases h;exact absurd rfl cK
   ·exact vm h
theorem TY{s:cS}{k:aL}(h:k∈c2 s):inObs s k:=by
 unfold c2 at h;rcases ih.1 h with h|h
 ·obtain⟨⟨bI,x⟩,J,rfl⟩:=iy.1 h;exact .inl (vm J)
 ·obtain⟨⟨bI,x⟩,J,rfl⟩:=iy.1 h;exact .inr (vm J)
theorem kf{s:cS}(h:jc s)(m:Nat):aL.loc m∉c2 s:=fun hm=>by
 rcases TY hm with J|J
 ·rw[h.1 m]at J;cases J
 ·rw[h.2 m]at J;cases J
theorem iH{α β:Type}(s:List (aL×β)):∀(a b:List (aL×α)),cb s (a++b)=cb s a++cb s b
 |[],b=>rfl
 |(k,x)::r,b=>by
  simp only[bO,cb];cases look k s with
  |none=>simp[iH s r b]
  |some _=>exact iH s r b
theorem On{α β:Type}(s:List (aL×β)):∀(l:List (aL×α)),(∀k x,(k,x)∈l->(look k s).isSome)->cb s l=[]
 |[],_=>rfl
 |(k,x)::r,h=>by
  have J:=h k x Ψ;simp only[cb];cases av:look k s with
  |none=>rw[av]at J;cases J
  |some _=>exact On s r fun k x ae=>h k x (by simp[ae])
theorem hh{α:Type}(s:List (aL×α)):cb s s=[]:=On s s fun k x h=>vm h
theorem kk{α:Type}{k:aL}{x:α}:∀{l:List (aL×α)},look k l=none->cA k x l=l++[(k,x)]
 |[],_=>rfl
 |(i,y)::r,h=>by
  simp only[look]at h;split at h
  ·cases h
  ·rename_i cK;simp[cA,cK,kk h]
theorem cV{α:Type}(k:aL):∀(a b:List (aL×α)),look k (a++b)=match look k a with|some x=>some x|none=>look k b
 |[],b=>rfl
 |(i,y)::r,b=>by
  simp only[bO,look];split
  ·rfl
  ·exact cV k r b
theorem cW.ob{P:cL}{n:Nat}{args:List ai}{st:bm}{d:Option Nat}{K:bm->Prop}{s:cS}{Q:ai->cS->Prop}(aR:bH P n args s Q)(ag:dR s)(ab:∀k cs,look k s.b=some cs->look k st.b=some cs)(he:∀k o,look k s.e=some o->look k st.e=some o)
  (ad:aP (inObs s) args) (h:∀r ah,Q r ah->Same s ah/\K ⟨eR d r st.t,cb s.b st.b++ah.b,cb s.e st.e++ah.e,st.n,st.o++c2 ah⟩):cW P n args st d K:=by
 refine .inl ⟨s,Q,fun k cs aq=>⟨ab k cs aq,.inl (by simp[aq]),ag.kb k cs aq⟩,fun k o ax=>⟨he k o ax,.inr (by simp[ax]),ag.ke k o ax⟩,ag.obj,ad,aR,fun r ah bF=>?_⟩;obtain⟨J,U⟩:=h r ah bF;exact⟨⟨fun m hm=>.inl (by rw[J.b];exact hm),fun m hm=>.inl (by rw[J.e];exact hm)⟩,U⟩
theorem cO.ob{fl:List bX}{s ah:cS}{Q:ai->cS->Prop}{e:Exit}{st:bm}{c:Prop}{cH:List ai}(uV:e= .ret\/e= .normal)(yr:aW st fl=some (c,cH))(aq:c)(ag:dR ah)(fh:Same s ah)(ab:∀k cs,look k ah.b=some cs->look k st.b=some cs)(dp:∀k o,look k ah.e=some o->look k st.e=some o)
  (ad:aG (inObs ah) (ey (aV cH))) (bF:Q (ey (aV cH)) ah):cO fl s Q e st:=by
 refine⟨uV,?_⟩;rw[yr];have Th:∀{α:Type} (l:List (aL×α)),(∀k x,(k,x)∈l->inObs ah k)->kQ ah l:=by
  intro α l;induction l with
  |nil=>intro _;trivial
  |cons x r bU=>obtain⟨k,x⟩:=x;intro h;exact⟨h k x Ψ,bU fun k x ae=>h k x (by simp[ae])⟩
 exact⟨aq,ah,Th _ fun k x ae=>.inl (by rw[<-fh.b];exact vm ae),Th _ fun k x ae=>.inr (by rw[<-fh.e];exact vm ae),fun k cs di=>⟨ab k cs di,.inl (by simp[di]),ag.kb k cs di⟩,fun k o ax=>⟨dp k o ax,.inr (by simp[ax]),ag.ke k o ax⟩,ag.obj,ad,bF⟩
theorem bH.mono{P:cL}{f:FuncId}{args:List ai}{s:cS}{Q qK:ai->cS->Prop}(h:bH P f args s Q)(bF:∀r ah,Q r ah->qK r ah):bH P f args s qK:=by
 intro w Z ba J U ar;have hm:∀(e:Ending) (w':World),(∃v r ah bn,e= .returned v/\Q r ah/\bd w' bn r v/\Good (fun bl=>fx Z s bl\/w.heap.size<=bl) w' bn ah.b ah.e/\pF bn ah/\jc ah/\qI ⟨w,Z,fx Z s,0,c2 s⟩ w' bn)->(∃v r ah bn,e= .returned v/\qK r ah/\bd w' bn r v/\Good (fun bl=>fx Z s bl\/w.heap.size<=bl) w' bn ah.b ah.e/\pF bn ah/\jc ah/\qI ⟨w,Z,fx Z s,0,c2 s⟩ w' bn):=by rintro e w' ⟨v,r,ah,bn,bB,a2,a3⟩;exact⟨v,r,ah,bn,bB,bF _ _ a2,a3⟩
 rcases h w Z ba J U ar with⟨pL,aq⟩|⟨v,w',aq,aJ⟩
 ·exact .inl ⟨pL,aq.mono hm⟩
 ·exact .inr ⟨v,w',aq,hm _ _ aJ⟩
theorem DI{s:cS}{k:aL}(h:inObs s k):¬fresh 0 (c2 s) k:=fun aR=>aR.2 (tY h)
theorem iO.ob{s:cS}(ag:dR s){st:bm}{dE:List (Nat×ai)}(aM:∀x∈dE,get x.1 st.t=x.2/\aG (inObs s) x.2)(ab:∀k cs,look k s.b=some cs->look k st.b=some cs)(he:∀k o,look k s.e=some o->look k st.e=some o):
  iO (c2 s) st ⟨dE,s.b,s.e,0,c2 s⟩:=
 ⟨fun x ae=>⟨(aM x ae).1,wS (fun k ad=>DI ad) _ (aM x ae).2⟩,fun k cs aq=>⟨ab k cs aq,DI (.inl (by simp[aq])),j9 (fun k ad=>DI ad) _ (ag.kb k cs aq)⟩,
  fun k o ax=>⟨he k o ax,DI (.inr (by simp[ax])),fun xs ae=>j9 (fun k ad=>DI ad) _ (ag.ke k o ax xs ae)⟩,fun m hm=>hm⟩
def cT(st:bm)(fl:List bX)(R:ai->Prop):Prop:=match aW st fl with
 |some (c,cH)=>c/\R (ey (aV cH))
 |none=>eW
theorem cO.at{fl:List bX}{s:cS}{Q:ai->cS->Prop}{e:Exit}{st:bm}(ah:cS)(uV:e= .ret\/e= .normal)(ag:dR ah)(fh:Same s ah)(ab:∀k cs,look k ah.b=some cs->look k st.b=some cs)(dp:∀k o,look k ah.e=some o->look k st.e=some o)
  (h:cT st fl fun r=>aG (inObs ah) r/\Q r ah):cO fl s Q e st:=by
 unfold cT at h;split at h
 ·rename_i c cH aJ;exact cO.ob uV aJ h.1 ag fh ab dp h.2.1 h.2.2
 ·exact h.elim
theorem gW.ob{P:cL}{nw:List Nat}{n:Nat}{args:List ai}{st:bm}{d:Option Nat}{K:bm->Prop}{s ah:cS}{r:ai}(aR:bH P n args s fun eM dE=>eM=r/\dE=ah)(ag:dR s)(fF:dR ah)(fh:Same s ah)(ab:∀k cs,look k s.b=some cs->look k st.b=some cs)(he:∀k o,look k s.e=some o->look k st.e=some o)
  (ad:aP (inObs s) args) (h:K ⟨eR d r st.t,cb s.b st.b++ah.b,cb s.e st.e++ah.e,st.n,st.o⟩):gW P false nw n args st d K:=
 .inr ⟨s,ah,r,none,fun k cs aq=>⟨ab k cs aq,.inl (by simp[aq]),ag.kb k cs aq⟩,fun k o ax=>⟨he k o ax,.inr (by simp[ax]),ag.ke k o ax⟩,ag.obj,fF.obj,⟨fun k ad=>.inl (by rw[fh.b];exact ad),fun k ad=>.inl (by rw[fh.e];exact ad),fun k ad=>by rw[<-fh.b];exact ad,fun k ad=>by rw[<-fh.e];exact ad,fun k ad=>by cases ad⟩,ad,aR,(fun e=>by cases e),h⟩
theorem dR.of{s:cS}(ax:jc s)(ab:∀x∈s.b,aP (inObs s) x.2)(he:∀x∈s.e,∀xs,x.2.xs=some xs->aP (inObs s) xs):dR s:=⟨ax,fun k cs ad=>ab (k,cs) (tQ ad),fun k o ad xs ae=>he (k,o) (tQ ad) xs ae⟩
@[simp]theorem aqU(b:List (aL×List ai))(e:List (aL×fN)):c2 ⟨b,e⟩=b.map (·.1)++e.map (·.1):=rfl
theorem BJ{α:Type}{k:aL}{p:α}:∀{a r:List (aL×α)},look k a=none->cA k p (a++r)=a++cA k p r
 |[],_,_=>rfl
 |(i,y)::a,r,h=>by
  simp only[look]at h;split at h
  ·cases h
  ·rename_i cK;simp[cA,cK,BJ h]
theorem ag0{α:Type}{s b:List (aL×α)}(h:∀p∈s,look p.1 b=some p.2):∀k x,look k s=some x->look k b=some x:=fun k x ae=>h (k,x) (tQ ae)
theorem en{S:aL->Prop}{b0 b:List (aL×List ai)}(h:∀p∈b0,look p.1 b=some p.2/\S p.1/\aP S p.2):gz S b0 b:=fun k x ae=>h (k,x) (tQ ae)
theorem eo{S:aL->Prop}{b0 b:List (aL×fN)}(h:∀p∈b0,look p.1 b=some p.2/\S p.1/\dV S p.2):nS S b0 b:=fun k x ae=>h (k,x) (tQ ae)
theorem aK{α:Type}{s b:List (aL×α)}(h:∀k x,look k s=some x->look k b=some x:=by first|(refine ag0 ?_;simp;done)|(intro k x ae;first|exact ae|(simp[ae,hh];done)|(simp[cV,hh,ae];done)|(cases k<;>simp_all[cV];done))):∀k x,look k s=some x->look k b=some x:=h
theorem bV{ob:List aL}{st st':bm}(J:∀x∈st'.t,get x.1 st.t=x.2/\aG (fun k=> ¬fresh st'.n st'.o k) x.2:=by simp[fresh,aP,aG,cn,inObs,Pv.look])(U:∀p∈st'.b,look p.1 st.b=some p.2/\(¬fresh st'.n st'.o p.1)/\aP (fun k=> ¬fresh st'.n st'.o k) p.2:=by simp[fresh,aP,aG,cn,inObs,Pv.look])(ar:∀p∈st'.e,look p.1 st.e=some p.2/\(¬fresh st'.n st'.o p.1)/\dV (fun k=> ¬fresh st'.n st'.o k) p.2:=by simp[fresh,aP,aG,dV,inObs,Pv.look])(a8:∀m∈ob,m∈st'.o:=by simp):iO ob st st':=⟨J,en U,eo ar,a8⟩
theorem bQ.next{ob:List aL}{hl:Nat->bm->Prop}{k:Nat}{Q:Exit->bm->Prop}{st:bm}(bI:Nat){ah:bm}(ad:bI<k)(hi:hl bI ah)(hw:iO ob st ah):bQ ob hl k Q .normal st:=⟨bI,ah,ad,hw,hi⟩
def kE:List (Int×ai)->List ai
 |[]=>[]
 |(k,v)::r=>.int .i64 k::v::kE r
def jX(l:List (Int×ai)):List ai:= .hdm l.length (List.range l.length)::kE l
def tb(k:Int):List (Int×ai)->Option ai
 |[]=>none
 |(i,v)::r=>if k=i then some v else tb k r
def pt(k:Int)(v:ai):List (Int×ai)->Option (List (Int×ai))
 |[]=>none
 |(i,w)::r=>if k=i then some ((k,v)::r)else match pt k v r with|some eM=>some ((i,w)::eM)|none=>none
def E6(k:Int)(v:ai)(l:List (Int×ai)):List (Int×ai):=match pt k v l with|some a1=>a1|none=>l++[(k,v)]
@[simp]theorem aqA:[ai.hdm 0 []]=jX []:=rfl
theorem Sc:∀a b,kE (a++b)=kE a++kE b
 |[],_=>rfl
 |(k,v)::r,b=>by simp[kE,Sc r b]
theorem U7(k:Int):∀l,tU .i (.int .i64 k) (kE l)=some (tb k l)
 |[]=>rfl
 |(i,v)::r=>by
  simp only[kE,tU,q7,tb];by_cases h:k=i
  ·simp[h]
  ·have:(k==i)=false:=by simp[h]
   simp[h,U7 k r,this]
theorem OY{k:Int}{v:ai}:∀{l a1},pt k v l=some a1->a1.length=l.length
 |[],_,h=>by simp[pt]at h
 |(i,w)::r,a1,h=>by
  simp only[pt]at h;split at h
  ·cases h;rfl
  ·split at h
   ·rename_i eM aJ;cases h;simp[OY aJ]
   ·cases h
theorem Vp(k:Int)(v:ai):∀l,sw .i (.int .i64 k) v (kE l)=some ((pt k v l).map kE)
 |[]=>rfl
 |(i,w)::r=>by
  simp only[kE,sw,q7,pt];by_cases h:k=i
  ·subst h;simp[kE]
  ·simp only[and_self,if_true,h,if_false,dL,Vp k v r];have:(k==i)=false:=by simp[h]
   rw[this];cases pt k v r<;>simp[kE]
@[simp]theorem Vo(k:Int)(v:ai)(l:List (Int×ai)):nK .i (.int .i64 k) v (jX l)=some (jX (E6 k v l)):=by
 simp only[jX,nK,Ur,Bool.true_eq_false,reduceCtorEq,if_false,Vp,E6];cases h:pt k v l with
 |some a1=>simp[OY h]
 |none=>simp[Sc,kE,List.range_succ]
@[simp]theorem Va(f:aL->Option (List ai))(m:aL)(l:List (Int×ai))(z:ai)(ok:Bool)(k:Int)(hm:f m=some (jX l)):nb f .i z ok (.gmap m) (.int .i64 k)=(match tb k l with
  |some v=>some (True,if ok then .tuple [v,.bool true]else v)
  |none=>some (True,if ok then .tuple [z,.bool false]else z)):=by
 simp only[L6,hm,jX,Ur,Bool.true_eq_false,reduceCtorEq,if_false,U7];cases tb k l<;>rfl
def cn(n:Nat)(seen:List Nat)(m:aL):List ai:=[.hdi n seen n,.gmap m]
@[simp]theorem aq8(m:aL)(l:List (Int×ai)):y2 m (jX l)=some (cn l.length [] m):=rfl
@[simp]theorem aq3(l:List (Int×ai)):hV (jX l)=false:=rfl
theorem LY(b:Nat):∀(n:Nat) (l:List (Int×ai)),na b (List.range' n l.length) (kE l)=(if n<=b then(l[b-n]?).map fun x=>.tuple [.int .i64 x.1,x.2]else none)
 |n,[]=>by simp[na,kE]
 |n,(k,v)::r=>by
  simp only[l5,List.range'_succ,kE,na];by_cases h:n=b
  ·subst h;simp
  ·rw[if_neg h,LY b (n+1) r];by_cases U:n<=b
   ·rw[if_pos U,if_pos Ω];have:b-n=(b-(n+1))+1:=Ω
    rw[this];simp
   ·rw[if_neg U,if_neg Ω]
@[simp]theorem U5(f:aL->Option (List ai))(fp mk:aL)(n:Nat)(seen:List Nat)(b:Nat)(l:List (Int×ai))(hi:f fp=some (cn n (seen++[b]) mk))(hm:f mk=some (jX l))(ay:n=l.length):pQ f (.ptr fp 0)=(l[b]?).map fun x=>(True,.tuple [.int .i64 x.1,x.2]):=by subst ay;simp only[U6,hi,hm,cn,jX,List.getLast?_append,List.getLast?_singleton,Option.some_or,List.range_eq_range',LY,Nat.zero_le,if_true,Nat.sub_zero,Option.map_map];cases l[b]?<;>simp
theorem RL{st:bm}{d:Nat}{K:bm->Prop}{fp mk:aL}{n:Nat}{seen:List Nat}{l:List (Int×ai)}(hi:look fp st.b=some (cn n seen mk))(hm:look mk st.b=some (jX l))(ay:n=l.length)
  (J:(∀b,b<n->b∈seen)->K {st with t:=put d (.tuple [.bool false]) st.t}) (U:∀b k v,l[b]? =some (k,v)->b∉seen->K {st with t:=put d (.tuple [.bool true,.int .i64 k,v]) st.t,b:=cA fp (cn n (seen++[b]) mk) st.b}):
  tl st d (.ptr fp 0) K:=by
 subst ay;simp only[tl,hi,cn,hm,jX,Mb,and_self,true_and];refine⟨fun h=>J fun b ab=>h b (by simpa using ab),fun b k v ym ab=>?_⟩;rw[List.range_eq_range',LY]at ym;simp only[Nat.zero_le,if_true,Nat.sub_zero,gk,ai.tuple.injEq,xE,and_true]at ym;obtain⟨⟨bI,v'⟩,ao,aF,bA⟩:=ym;simp only at aF bA;subst aF bA;exact U b bI v' ao ab
theorem ajV{n:Nat}{seen:List Nat}(aN:seen.Nodup)(bs:∀b∈seen,b<n)(k3:∀b,b<n->b∈seen):seen.Perm (List.range n):=(List.perm_ext_iff_of_nodup aN List.nodup_range).2 fun b=>⟨fun h=>by simpa using bs b h,fun h=>k3 b (by simpa using h)⟩
theorem H3{n:Nat}{seen:List Nat}(aN:seen.Nodup)(bs:∀b∈seen,b<n):seen.length<=n:=by have:=Ow aN (l₂:=List.range n) (fun b ab=>by simpa using bs b ab);simpa using this
theorem Ns{n b:Nat}{seen:List Nat}(aN:seen.Nodup)(bs:∀b∈seen,b<n)(ab:b<n)(ay:b∉seen):seen.length<n:=by have J:(b::seen).Nodup:=List.nodup_cons.2 ⟨ay,aN⟩;have:=H3 J (n:=n) (by simp;exact⟨ab,bs⟩);simp at this;omega
theorem W0{α:Type}:∀(l pre:List α),(List.range' pre.length l.length).filterMap (fun b=>(pre++l)[b]?)=l
 |[],_=>rfl
 |x::r,pre=>by have bU:=W0 r (pre++[x]);simp only[pf,List.length_singleton,List.append_assoc,List.singleton_append]at bU;simp[List.range'_succ,bU]
theorem Nr{α:Type}{l:List α}{seen:List Nat}(aN:seen.Nodup)(bs:∀b∈seen,b<l.length)(k3:∀b,b<l.length->b∈seen):(seen.filterMap fun b=>l[b]?).Perm l:=by have J:=(ajV aN bs k3).filterMap fun b=>l[b]?;have U:=W0 l [];simp only[List.length_nil,bS,<-List.range_eq_range']at U;rwa[U]at J
theorem Mf{b:Nat}{seen:List Nat}(aN:seen.Nodup)(ay:b∉seen):(seen++[b]).Nodup:=by rw[List.nodup_append];exact⟨aN,Ψ,by simp;intro a bk e;subst e;exact ay bk⟩
theorem cZ.start{w:World}{Z:bc}{s:cS}{args:List ai}{ba:Array Value}(nG:jc s)(aX:Good (fx Z s) w Z s.b s.e)(ae:pF Z s)(aJ:cX w Z args ba.toList):
  cZ ⟨w,Z,fx Z s,ba.size,c2 s⟩ ⟨kh 0 args,s.b,s.e,0,c2 s⟩ {tmps:=ba,defers:=[]} w Z:=by
 have jl:=Ea aJ;have k6:ba.size=args.length:=by simpa using jl
 have oT:∀k,fresh 0 (c2 s) k->Z.bx k=none/\Z.ow k=none/\∀j b,¬Z.tr k j b:=by
  intro k ad;cases k with
  |loc m=>exact⟨(ae _).1 (nG.1 m),(ae _).2.1 (nG.2 m),(ae _).2.2⟩
  |obj m=>
   simp only[fresh,true_and]at ad;refine⟨?_,?_,(ae _).2.2⟩
   ·refine(ae _).1 ?_;cases h:look (.obj m) s.b with
    |none=>rfl
    |some x=>exact absurd (tY (.inl (by simp[h]))) ad
   ·refine(ae _).2.1 ?_;cases h:look (.obj m) s.e with
    |none=>rfl
    |some x=>exact absurd (tY (.inr (by simp[h]))) ad
 have gH:∀m,(Z.bx (.obj m)≠none\/Z.ow (.obj m)≠none)-> .obj m∈c2 s:=by
  intro m hm;refine Classical.byContradiction fun aq=>?_;obtain⟨J,U,_⟩:=oT (.obj m) ⟨trivial,aq⟩;rcases hm with hm|hm
  ·exact hm J
  ·exact hm U
 refine⟨⟨aX.alt,fun k cs ad=>?_,aX.inj,fun g o dY=>?_,aX.oinj,aX.obx,aX.one,aX.otr⟩,⟨rfl,rfl,rfl,eX _,fun _ _ _=>rfl,fun b o h=>⟨h,rfl⟩,fun b o h=>.inl h,fun n b h=>h,fun n b h=>gH n (.inl (by rw[h];simp)),fun m n u h=>⟨n,u,h,.inl ⟨rfl,rfl⟩⟩,fun m n u h=>gH m (.inr (by rw[h];simp)),fun k j _ _ b h=>absurd h ((ae k).2.2 j b),fun k j b h=>absurd h ((ae k).2.2 j b),fun k j b h=>absurd h ((ae k).2.2 j b),fun _ _ _=>rfl⟩,rfl,rfl,fun i=>?_,oT⟩
 ·obtain⟨bl,us,el,g1,g2,g3⟩:=aX.box k cs ad;exact⟨bl,us,el,g1,.inl g2,g3⟩
 ·obtain⟨v,us,g1,g2,g3,g4⟩:=aX.own g o dY;exact⟨v,us,g1,g2,fun bl e8=>⟨.inl (g3 bl e8).1,(g3 bl e8).2⟩,g4⟩
 ·rw[Kj];by_cases hi:i<args.length
  ·rw[if_pos Ω];have uZ:args[i]? =some args[i]:=cf hi;obtain⟨v,ao,aF⟩:=HP i aJ uZ;have JG:ba[i]? =some v:=by simpa using ao
   show bd w Z _ (ba.getD i undef);rw[Array.getD_eq_getD_getElem?,JG];simpa[List.getD,uZ]using aF
  ·rw[if_neg Ω];simp[bd]
theorem bH.sem{P:cL}{f:FuncId}{args:List ai}{s:cS}{Q:ai->cS->Prop}(nG:jc s)
  (h:∀(w:World) (Z:bc) (ba:Array Value),ba.size=args.length->cZ ⟨w,Z,fx Z s,ba.size,c2 s⟩ ⟨kh 0 args,s.b,s.e,0,c2 s⟩ {tmps:=ba,defers:=[]} w Z->
   xF P f ba w fun e w'=> ∃v st' bj bn r ah,e= .returned v/\cZ ⟨w,Z,fx Z s,ba.size,c2 s⟩ st' bj w' bn/\bd w' bn r v/\kQ ah s.b/\kQ ah s.e/\gz (inObs ah) ah.b st'.b/\nS (inObs ah) ah.e st'.e/\jc ah/\aG (inObs ah) r/\Q r ah):bH P f args s Q:=by
 intro w Z ba aX ae aJ;have k6:ba.size=args.length:=by simpa using Ea aJ
 have qj:=cZ.start nG aX ae aJ;have hm:∀(e:Ending) (w':World),(∃v st' bj bn r ah,e= .returned v/\cZ ⟨w,Z,fx Z s,ba.size,c2 s⟩ st' bj w' bn/\bd w' bn r v/\kQ ah s.b/\kQ ah s.e/\gz (inObs ah) ah.b st'.b/\nS (inObs ah) ah.e st'.e/\jc ah/\aG (inObs ah) r/\Q r ah)->
   ∃v r ah bn,e= .returned v/\Q r ah/\bd w' bn r v/\Good (fun bl=>fx Z s bl\/w.heap.size<=bl) w' bn ah.b ah.e/\pF bn ah/\jc ah/\qI ⟨w,Z,fx Z s,0,c2 s⟩ w' bn:=by
  rintro e w' ⟨v,st',bj,bn,r,ah,rfl,dH,o4,kb,ke,a6,bD,bY,c5,dc⟩;refine⟨v,r,ah,bn.cut (inObs ah),rfl,dc,vB (pq.cut _ w' bn) _ _ c5 o4,dH.good.cut a6 bD (fun bl h _=>h),?_,bY,?_⟩
  ·intro k;refine⟨?_,?_,?_⟩;rotate_left 2
   ·rintro j b ⟨ag,ab⟩;obtain⟨t1,t2⟩:=dH.fr.trn k j b ab;rcases ag with ag|ag<;>obtain⟨x,iu⟩:=fE.1 ag
    ·obtain⟨bl,cm,el,ao,_⟩:=dH.good.box k x (a6 k x iu).1;rw[t1]at ao;cases ao
    ·obtain⟨v',cm,ao,_⟩:=dH.good.own k x (bD k x iu).1;rw[t2]at ao;cases ao
   ·intro ad;by_cases ag:inObs ah k
    ·rw[bc.cut_bx ag];rcases ag with ag|ag
     ·rw[ad]at ag;cases ag
     ·obtain⟨x,iu⟩:=fE.1 ag;obtain⟨v',cm,ao,_⟩:=dH.good.own k x (bD k x iu).1;rcases dH.good.one k with J|J
      ·exact J
      ·rw[J]at ao;cases ao
    ·exact(bc.cut_no ag).1
   ·intro ad;by_cases ag:inObs ah k
    ·rw[bc.cut_ow ag];rcases ag with ag|ag
     ·obtain⟨x,iu⟩:=fE.1 ag;obtain⟨bl,cm,el,ao,_⟩:=dH.good.box k x (a6 k x iu).1;rcases dH.good.one k with J|J
      ·rw[J]at ao;cases ao
      ·exact J
     ·rw[ad]at ag;cases ag
    ·exact(bc.cut_no ag).2.1
  ·refine⟨dH.fr.os,dH.fr.tape,dH.fr.output,dH.fr.size,dH.fr.block,dH.fr.keep,dH.fr.fresh,fun n b h=>?_,dH.fr.obn,fun m n u h=>?_,dH.fr.obr,fun k j bI dD b J U=>dH.fr.trd k j bI dD b J.2 U.2,fun k j b ab=>dH.fr.trb k j b ab.2,fun k j b ab=>(by rw[bc.cut_bx ab.1,bc.cut_ow ab.1];exact dH.fr.trn k j b ab.2),dH.fr.sh⟩
   ·have ag:inObs ah (.obj n):=by
     cases av:look (.obj n) s.b with
     |none=>rw[(ae _).1 av]at h;cases h
     |some x=>exact AL kb _ (by simp[av])
    rw[bc.cut_bx ag];exact dH.fr.obj n b h
   ·have ag:inObs ah (.obj m):=by
     cases av:look (.obj m) s.e with
     |none=>rw[(ae _).2.1 av]at h;cases h
     |some x=>exact AL ke _ (by simp[av])
    rw[bc.cut_ow ag];exact dH.fr.row m n u h
 rcases h w Z ba k6 qj with⟨pL,aq⟩|⟨v,w',aq,yr⟩
 ·exact .inl ⟨pL,aq.mono hm⟩
 ·exact .inr ⟨v,w',aq,hm _ _ yr⟩
theorem cZ.grown{C:fj}{st:bm}{a:Act}{w w':World}{Z:bc}(h:cZ C st a w Z)(aX:w.grownBy w' none):cZ C st a w' Z:=by
 have k5:lF w Z w' Z:=⟨fun b o bg=>⟨bg,Fs aX (h.good.alt b o bg)⟩,fun _ _ _ h=>h,fun _ n u _ h=>⟨n,u,h,.inl ⟨rfl,rfl⟩⟩,fun b o bg=>xf (aX.block b (h.good.alt b o bg) Ψ),fun _ _ _ _ h=>h⟩;refine h.over k5 rfl ⟨fun b o bg=>Nat.lt_of_lt_of_le (h.good.alt b o bg) aX.size,fun k cs ad=>?_,h.good.inj,fun g o dY=>?_,h.good.oinj,h.good.obx,h.good.one,h.good.otr⟩
  ⟨aX.os.trans h.fr.os,aX.tape.trans h.fr.tape,aX.output.trans h.fr.output,kn h.fr.size aX.size,fun k ad hm=>?_,fun b o bg=>?_,h.fr.fresh,h.fr.obj,h.fr.obn,h.fr.row,h.fr.obr,h.fr.trd,fun k j b ab=>⟨(h.fr.trb k j b ab).1,Nat.lt_of_lt_of_le (h.fr.trb k j b ab).2 aX.size⟩,h.fr.trn,fun b o bg=>(k5.sh b o (h.fr.keep b o bg).1).trans (h.fr.sh b o bg)⟩ h.new
 ·obtain⟨bl,us,el,g1,g2,g3,g4,g5⟩:=h.good.box k cs ad;exact⟨bl,us,el,g1,g2,g3,by rw[aX.block bl (Array.getElem?_eq_some_iff.1 g4).1 Ψ];exact g4,qz k5 g5⟩
 ·obtain⟨v,us,g1,g2,g3,g4⟩:=h.good.own g o dY;exact⟨v,us,g1,g2.kept aX (by cases v.ownBlock<;>simp),g3,sG k5 (fun _ _ _ h=>h) g4⟩
 ·rw[aX.block k (Nat.lt_of_lt_of_le ad h.fr.size) Ψ];exact h.fr.block k ad hm
 ·obtain⟨aU,bp⟩:=h.fr.keep b o bg;exact⟨aU,(k5.A b o aU).2.trans bp⟩
theorem cW.new{P:cL}{n:Nat}{args:List ai}{st:bm}{d:Option Nat}{K:bm->Prop}{s:cS}{Q:ai->cS->Prop}(aR:bH P n args s Q)(ag:dR s)(ab:∀k cs,look k s.b=some cs->look k st.b=some cs)(he:∀k o,look k s.e=some o->look k st.e=some o)
  (ad:aP (inObs s) args) (h:∀r ah,Q r ah->(∀m,inObs ah (.obj m)->inObs s (.obj m)/\Same s ah\/ .obj m∉st.o)/\K ⟨eR d r st.t,cb s.b st.b++ah.b,cb s.e st.e++ah.e,st.n,st.o++c2 ah⟩):cW P n args st d K:=by
 refine .inl ⟨s,Q,fun k cs aq=>⟨ab k cs aq,.inl (by simp[aq]),ag.kb k cs aq⟩,fun k o ax=>⟨he k o ax,.inr (by simp[ax]),ag.ke k o ax⟩,ag.obj,ad,aR,fun r ah bF=>?_⟩;obtain⟨J,U⟩:=h r ah bF;refine⟨⟨fun m hm=>?_,fun m hm=>?_⟩,U⟩
 ·rcases J m (.inl hm)with⟨_,ar⟩|ar
  ·exact .inl (by rw[ar.b];exact hm)
  ·exact .inr ar
 ·rcases J m (.inr hm)with⟨_,ar⟩|ar
  ·exact .inl (by rw[ar.e];exact hm)
  ·exact .inr ar
theorem cO.new{fl:List bX}{s:cS}{Q:ai->cS->Prop}{e:Exit}{st:bm}(ah:cS)(uV:e= .ret\/e= .normal)(ag:dR ah)(fh:kQ ah s.b/\kQ ah s.e)(ab:∀k cs,look k ah.b=some cs->look k st.b=some cs)(dp:∀k o,look k ah.e=some o->look k st.e=some o)
  (h:cT st fl fun r=>aG (inObs ah) r/\Q r ah):cO fl s Q e st:=by
 unfold cT at h;split at h
 ·rename_i c cH aJ;refine⟨uV,?_⟩;rw[aJ];exact⟨h.1,ah,fh.1,fh.2,fun k cs di=>⟨ab k cs di,.inl (by simp[di]),ag.kb k cs di⟩,fun k o ax=>⟨dp k o ax,.inr (by simp[ax]),ag.ke k o ax⟩,ag.obj,h.2.1,h.2.2⟩
 ·exact h.elim
@[simp]theorem aoK{P:cL}{ob:List aL}{c d:C}{Q:Exit->bm->Prop}{st:bm}{s:Nat}:c3 P ob (.seq (.pub s c) d) Q st=xI P ob (.seq c d) Q (w8 st s):=by simp only[c3];cases w8 st s<;>rfl
@[simp]theorem aoJ{P:cL}{ob:List aL}{c d:C}{Q:Exit->bm->Prop}{st:bm}{s:Nat}:c3 P ob (.seq (.pubB s c) d) Q st=xI P ob (.seq c d) Q (w7 st s):=by simp only[c3];cases w7 st s<;>rfl
end
section
open Go Go.RowKit
def ve(t:List (Nat×ai))(cg:List Nat):List (Nat×ai):=cg.map fun k=>(k,get k t)
@[simp]theorem apQ(t:List (Nat×ai)):ve t []=[]:=rfl
@[simp]theorem apP(t:List (Nat×ai))(k:Nat)(cg:List Nat):ve t (k::cg)=(k,get k t)::ve t cg:=rfl
def pS(st:bm)(cg:List Nat)(cs:List (Nat×ai)):bm:=⟨ve st.t cg++cs,st.b,st.e,st.n,st.o⟩
theorem ahz(t:List (Nat×ai))(b:List (aL×List ai))(e:List (aL×fN))(n:Nat)(o:List aL)(cg:List Nat)(cs:List (Nat×ai)):pS ⟨t,b,e,n,o⟩ cg cs=⟨ve t cg++cs,b,e,n,o⟩:=rfl
def zs{α:Type}(S:Nat->α->bm)(n:Nat)(gX:Nat->α->Prop)(k:Nat)(st:bm):Prop:= ∃i a,i<=n/\k=n-i/\gX i a/\st=S i a
section
variable {P:cL} {ob:List aL} {st:bm} {Q:Exit->bm->Prop} {c:C} {α:Type}
theorem hQ(S:Nat->α->bm)(n:Nat)(gX:Nat->α->Prop)(a0:α)(hw:iO ob st (S 0 a0))(bE:gX 0 a0)(tx:∀a,gX n a->(∀i,gg (get i (S n a).t))->c3 P ob c (bQ ob (zs S n gX) 0 Q) (S n a))
  (jW:∀i a,i<n->gX i a->(∀j,gg (get j (S i a).t))->c3 P ob c (bQ ob (zs S n gX) (n-i) Q) (S i a)):c3 P ob (.loop c) Q st:=by
 refine n5 (zs S n gX) n _ hw ⟨0,a0,Ω,Ω,bE,rfl⟩ ?_;rintro k s ⟨i,a,hi,rfl,af,rfl⟩ ab _;rcases Nat.lt_or_ge i n with h|h
 ·exact jW i a h af ab
 ·obtain rfl:i=n:=Ω
  rw[Nat.sub_self];exact tx a af ab
theorem bQ.rng{S:Nat->α->bm}{n:Nat}{gX:Nat->α->Prop}{i:Nat}(bj:α)(hi:i<n)(af:gX (i+1) bj)(hw:iO ob st (S (i+1) bj)):bQ ob (zs S n gX) (n-i) Q .normal st:=⟨n-(i+1),_,Ω,hw,i+1,bj,Ω,rfl,af,rfl⟩
def BT{α:Type}(S:α->bm)(nj:α->Nat)(gX:α->Prop)(k:Nat)(st:bm):Prop:= ∃a,k=nj a/\gX a/\st=S a
theorem nu(S:α->bm)(nj:α->Nat)(gX:α->Prop)(a0:α)(hw:iO ob st (S a0))(bE:gX a0)
  (jW:∀a,gX a->(∀j,gg (get j (S a).t))->c3 P ob c (bQ ob (BT S nj gX) (nj a) Q) (S a)):c3 P ob (.loop c) Q st:=by
 refine n5 (BT S nj gX) (nj a0) _ hw ⟨a0,rfl,bE,rfl⟩ ?_;rintro k s ⟨a,rfl,af,rfl⟩ ab _;exact jW a af ab
theorem bQ.whl{S:α->bm}{nj:α->Nat}{gX:α->Prop}{k:Nat}(bj:α)(hm:nj bj<k)(af:gX bj)(hw:iO ob st (S bj)):bQ ob (BT S nj gX) k Q .normal st:=⟨nj bj,_,hm,hw,bj,rfl,af,rfl⟩
end
theorem gN{p:Prop}(h:p:=by(try simp[*]);(repeat' first|with_reducible refine aj ?_|with_reducible refine aD (by assumption) ?_|with_reducible refine aE (by assumption) ?_|simp[*]);(all_goals first|exact bQ.rng () (by assumption) (by first|assumption|trivial) bV|exact bQ.rng _ (by assumption) (by assumption) bV)):p:=h
end
section
open Go Go.RowKit
def mr(s:cS)(n:Nat)(k:aL):Prop:=inObs s k\/ ∃m,m<n/\k= .loc m
@[simp]theorem Vu(s:cS)(n m:Nat)(hm:m<n):mr s n (.loc m):= .inr ⟨m,hm,rfl⟩
theorem A4{s:cS}{n:Nat}{l:List ai}(h:aP (inObs s) l):aP (mr s n) l:=j9 (fun _ h=>.inl h) l h
theorem yO{s ah:cS}(fh:Same s ah){n:Nat}{k:aL}(h:mr ah n k):¬fresh n (c2 s) k:=by
 rcases h with h|⟨m,hm,rfl⟩
 ·exact fun aR=>aR.2 (tY ((fh.inObs k).2 h))
 ·intro aR;have:=aR.1;simp at this;omega
theorem iO.obL{s ah:cS}(fF:dR ah)(fh:Same s ah){st:bm}{dE:List (Nat×ai)}{L:List (aL×List ai)}{n:Nat}(aM:∀x∈dE,get x.1 st.t=x.2/\aG (mr ah n) x.2)(h0:∀x∈L,look x.1 st.b=some x.2/\mr ah n x.1/\aP (mr ah n) x.2)
  (ab:∀k cs,look k ah.b=some cs->look k st.b=some cs) (he:∀k o,look k ah.e=some o->look k st.e=some o):iO (c2 s) st ⟨dE,L++ah.b,ah.e,n,c2 s⟩:=by
 refine⟨fun x ae=>⟨(aM x ae).1,wS (fun k ad=>yO fh ad) _ (aM x ae).2⟩,fun k cs ad=>?_,fun k o ax=>?_,fun m hm=>hm⟩
 ·simp only at ad;rw[cV]at ad;cases av:look k L with
  |some x=>rw[av]at ad;simp only[dC]at ad;subst ad;obtain⟨J,U,ar⟩:=h0 _ (tQ av);exact⟨J,yO fh U,j9 (fun k ad=>yO fh ad) _ ar⟩
  |none=>rw[av]at ad;exact⟨ab k cs ad,yO fh (.inl (.inl (by simp[ad]))),j9 (fun k ad=>yO fh (.inl ad)) _ (fF.kb k cs ad)⟩
 ·exact⟨he k o ax,yO fh (.inl (.inr (by simp at ax;simp[ax]))),fun xs ae=>j9 (fun k ad=>yO fh (.inl ad)) _ (fF.ke k o ax xs ae)⟩
def ho{α:Type}(l:List α)(i j:Nat):List α:=match l[i]?,l[j]? with
 |some x,some y=>(l.set i y).set j x
 |_,_=>l
section
variable {α:Type}
@[simp]theorem ag8(l:List α)(i j:Nat):(ho l i j).length=l.length:=by unfold ho;split<;>simp
theorem AT(l:List α)(i j k:Nat)(hi:i<l.length)(af:j<l.length):(ho l i j)[k]? =if k=i then l[j]? else if k=j then l[i]? else l[k]?:=by
 unfold ho;rw[cf hi,cf af];simp only[List.getElem?_set,List.length_set];by_cases J:j=k
 ·subst J;by_cases U:j=i
  ·subst U;simp[hi]
  ·simp[U,af]
 ·by_cases U:i=k
  ·subst U;simp[J,hi]
  ·simp[J,U,ld J,ld U]
theorem UR(l:List α)(i j:Nat):(ho l i j).Perm l:=by
 unfold ho;split
 ·rename_i x y ae aH;obtain⟨hi,rfl⟩:=fb.1 ae;obtain⟨af,rfl⟩:=fb.1 aH;exact List.set_set_perm hi af
 ·exact .refl _
inductive gu (a b:Nat):List α->List α->Prop
 |refl (l:List α):gu a b l l
 |step {l m:List α} {i j:Nat}:gu a b l m->a<=i->i<b->a<=j->j<b->i<m.length->j<m.length->gu a b l (ho m i j)
theorem gu.length{a b:Nat}{l m:List α}(h:gu a b l m):m.length=l.length:=by
 induction h with
 |refl=>rfl
 |step _ _ _ _ _ _ _ bU=>rw[ag8,bU]
theorem gu.perm{a b:Nat}{l m:List α}(h:gu a b l m):m.Perm l:=by
 induction h with
 |refl=>exact .refl _
 |step _ _ _ _ _ _ _ bU=>exact(UR _ _ _).trans bU
theorem gu.out{a b:Nat}{l m:List α}(h:gu a b l m)(k:Nat)(ad:k<a\/b<=k):m[k]? =l[k]?:=by
 induction h with
 |refl=>rfl
 |step _ J U ar a8 b8 de bU=>rw[AT _ _ _ _ b8 de,if_neg Ω,if_neg Ω];exact bU
theorem gu.all{a b:Nat}{l m:List α}(h:gu a b l m)(p:α->Prop)(bK:∀k x,a<=k->k<b->l[k]? =some x->p x):∀k x,a<=k->k<b->m[k]? =some x->p x:=by
 induction h with
 |refl=>exact bK
 |step _ J U ar a8 b8 de bU=>
  intro k x gy jC ae;rw[AT _ _ _ _ b8 de]at ae;split at ae
  ·exact bU _ _ ar a8 ae
  ·split at ae
   ·exact bU _ _ J U ae
   ·exact bU _ _ gy jC ae
theorem gu.trans{a b:Nat}{l m r:List α}(h:gu a b l m)(b4:gu a b m r):gu a b l r:=by
 induction b4 with
 |refl=>exact h
 |step _ J U ar a8 b8 de bU=>exact .step bU J U ar a8 b8 de
theorem gu.mono{a b bj b0:Nat}{l m:List α}(h:gu a b l m)(bk:bj<=a)(ab:b<=b0):gu bj b0 l m:=by
 induction h with
 |refl=>exact .refl _
 |step _ J U ar a8 b8 de bU=>exact .step bU Ω Ω Ω Ω b8 de
def fe(lt:α->α->Bool)(a b:Nat)(l:List α):Prop:= ∀i j x y,a<=i->i<j->j<b->l[i]? =some x->l[j]? =some y->lt y x=false
structure qJ (lt:α->α->Bool):Prop where
 asym:∀x y,lt x y=true->lt y x=false
 ntr:∀x y z,lt y x=false->lt z y=false->lt z x=false
theorem fe.pairwise{lt:α->α->Bool}{l:List α}(h:fe lt 0 l.length l):l.Pairwise fun x y=>lt y x=false:=by rw[pg];intro i j hi af lM;exact h i j _ _ Ω lM af (cf hi) (cf af)
def h6(a m b k:Nat):Nat:=if k<a then k else if k<a+(b-m)then k+(m-a)else if k<b then k-(b-m)else k
def sQ(a b c k:Nat):Nat:=if a<=k/\k<a+c then b+(k-a)else if b<=k/\k<b+c then a+(k-b)else k
end
theorem FX(i j:Nat)(h:i+j<=1099511627776):nk.wrap (Int.fdiv (hv.wrap ((i:Int)+j)) (2 ^ (min 1 hv.bits)))=((i+j)/2:Nat):=by
 have hw:hv.wrap ((i:Int)+j)=i+j:=by simp[sY,nW,rD];omega
 have Kt:hv.bits=64:=rfl;rw[hw,Kt,show(2:Int) ^ (min 1 64)=2 from by decide,Int.fdiv_eq_ediv_of_nonneg _ Ω,mB]
 ·omega
 ·omega
end
section
open Go Go.RowKit
section
variable {P:cL} {ob:List aL} {st:bm} {Q:Exit->bm->Prop} {c:C} {α:Type}
theorem dW(cg:List Nat)(cs:Nat->α->List (Nat×ai))(n:Nat)(gX:Nat->α->Prop)(a0:α)(hw:iO ob st (pS st cg (cs 0 a0)))(bE:gX 0 a0)(tx:∀a,gX n a->(∀i,gg (get i (pS st cg (cs n a)).t))->c3 P ob c (bQ ob (zs (fun i a=>pS st cg (cs i a)) n gX) 0 Q) (pS st cg (cs n a)))
  (jW:∀i a,i<n->gX i a->(∀j,gg (get j (pS st cg (cs i a)).t))->c3 P ob c (bQ ob (zs (fun i a=>pS st cg (cs i a)) n gX) (n-i) Q) (pS st cg (cs i a))):c3 P ob (.loop c) Q st:=
 hQ (fun i a=>pS st cg (cs i a)) n gX a0 hw bE tx jW
theorem v7(cg:List Nat)(cs:α->List (Nat×ai))(nj:α->Nat)(gX:α->Prop)(a0:α)(hw:iO ob st (pS st cg (cs a0)))(bE:gX a0)
  (jW:∀a,gX a->(∀j,gg (get j (pS st cg (cs a)).t))->c3 P ob c (bQ ob (BT (fun a=>pS st cg (cs a)) nj gX) (nj a) Q) (pS st cg (cs a))):c3 P ob (.loop c) Q st:=
 nu (fun a=>pS st cg (cs a)) nj gX a0 hw bE jW
end
attribute [simp] ahz
end
end Go.Pv
namespace Go.Proofs.YtohaalphocaebaaGreatDoor
section
open Go Go.Pv
def QA:C:=(aa [c1 6 kR] (aa [I 7 0,I 8 1,ch 9 21 7 8,I 10 2,dj 11 20 [.t 9,.t 10,(eF 5)],bN 5 6 11] .ret))
@[simp] def akG:List bX:=[.cell 6 true 5]
def Q9:C:=(aa [c1 6 kR] (aa [I 12 1,hD 13 kR [(0,1,(.t 12))],c1 7 kR,bN 5 7 13] (.seq (aa [I 14 0,I 15 2,aS 16 .add 15 1,ch 17 48 14 16,I 8 17] (.block 0 (.loop (.seq (aa [I 18 8,aS 19 .gtr 18 0] (aZ 19 .skip (.exit 0))) (.seq (.block 1 (aa [I 22 0,I 23 1,dj 24 35 [.t 22,(eF 3),.t 23],c1 9 dd,bN 4 9 24] (.seq (.drawn false 46 [a7 26 5 7,I 27 0,dj 28 48 [.t 27,(eF 4)],a7 29 4 9,I 30 0,I 31 1,dj 32 35 [.t 30,(eF 5),.t 31],I 33 0,dj 34 48 [.t 33,(eF 2)],bR 35 (.bin .add false (eF 2) (.t 34)),I 36 0,cN (.bsl 37 1 9 [(.c (.str [97])),(.c (.str [98]))]),ch 38 50 36 37,dj 39 49 [.t 26,.t 28,.t 29,.t 32,.t 35,.t 38],I 25 39,cC 40 0 25,cC 41 1 25,c1 10 kR,bN 5 10 40,I 11 41]) (aa [I 42 11] (aZ 42 (.region [a7 43 5 10,bN 5 7 43]) .skip))))) (.region [I 20 8,aS 21 .sub 20 1,I 8 21])))))) (aa [a7 44 5 7,cR 45 51 44,bN 5 6 45] .ret))))
@[simp] def M1:List bX:=[.cell 6 true 5]
def Rc:C:=(aa [bR 4 (.mov (.c (.nilp)))] (aa [I 7 0,cR 8 52 7,I 5 8] (.seq (aa [cd 6 0] (.block 0 (.loop (.seq (aa [I 9 6,I 10 1,br 11 .lss 9 10] (aZ 11 .skip (.exit 0))) (.seq (.block 1 (.region [I 14 5,cR 15 44 14])) (.region [I 12 6,aS 13 .add 12 1,I 6 13])))))) (aa [I 16 5,I 4 16] .ret))))
@[simp] def WZ:List bX:=[.tmp 4]
def QL:C:=(aa [c1 6 dd] (aa [I 9 0,dj 10 48 [.t 9,(eF 8)],I 7 10] (.seq (aa [I 11 1,aS 12 .gtr 11 2,I 13 12,bW 13 true 14 7,au 13 true (aS 15 .geq 14 3),dq 16 13 15] (aZ 16 (aa [I 17 0,I 18 1,aS 19 .quo 18 2,I 20 2,dj 21 35 [.t 17,.t 19,.t 20],c1 8 dd,bN 4 8 21] (.seq (.drawn false 42 [a7 22 4 8,I 23 0,I 24 1,aS 25 .quo 24 2,I 26 2,dj 27 35 [.t 23,.t 25,.t 26],ch 28 83 22 27,bN 4 6 28]) .ret)) .skip)) (.seq (aa [I 29 2,aS 30 .gtr 29 0,I 31 30,bW 31 true 32 7,au 31 true (aS 33 .rem 32 2),au 31 true (aS 34 .eql 33 0),dq 35 31 34] (aZ 35 (aa [I 36 0,I 37 2,ch 38 48 36 37,cR 39 84 38,bN 4 6 39] .ret) .skip)) (aa [I 40 0,cR 41 85 40,bN 4 6 41] .ret)))))
@[simp] def Hz:List bX:=[.cell 6 true 4]
def Jq:C:=(aa [cd 2 0] (aa [I 4 0,I 5 0,eI 6 5,aI 7 2 1 6,aw 8 1 7,bR 9 (.bin .mul true (.t 8) (eF 6364136223846793005)),bR 10 (.bin .add true (.t 9) (eF 1442695040888963407)),eI 11 4,aI 12 2 1 11,bN 1 12 10] (.seq (.drawn true 58 [I 13 0,eI 14 13,aI 15 2 1 14,aw 16 1 15,bR 17 (.bin .shr false (.t 16) (.c (.int .u64 33))),I 18 0,eI 19 18,aI 20 2 1 19,aw 21 1 20,bR 22 (.bin .shr false (.t 21) (.c (.int .u64 45))),br 23 .xor 17 22,aS 24 .and 23 255,I 3 24]) (.seq (.seq (.drawn true 58 [I 25 0,eI 26 25,aI 27 1 1 26,aw 28 1 27,I 29 0,eI 30 29,aI 31 0 1 30,aw 32 1 31,cz 33 32,br 34 .lss 28 33]) (aZ 34 (.seq (.drawn true 58 [I 35 3,I 36 0,eI 37 36,aI 38 0 1 37,aw 39 1 38,I 40 0,eI 41 40,aI 42 1 1 41,aw 43 1 42,cy 44 1 39 43,aw 45 1 44,bR 46 (.conv .i64 (.t 45)),br 47 .add 35 46,aS 48 .and 47 255,I 3 48]) (.region [I 49 0,I 50 0,eI 51 50,aI 52 1 1 51,aw 53 1 52,aS 54 .add 53 1,eI 55 49,aI 56 1 1 55,bN 1 56 54])) .skip)) (aa [I 57 3,I 2 57] .ret)))))
@[simp] def MR:List bX:=[.tmp 2]
def QF:C:=(aa [cd 4 0] (.seq (aa [I 5 1,aS 6 .leq 5 0] (aZ 6 (aa [cd 4 0] .ret) .skip)) (aa [I 7 0,cR 8 44 7,I 9 1,br 10 .rem 8 9,I 4 10] .ret)))
@[simp] def MQ:List bX:=[.tmp 4]
def QI:C:=(aa [bR 4 (.mov (.c (.str [])))] (aa [I 5 1,I 6 0,I 7 1,cz 8 7,ch 9 48 6 8,cy 10 1 5 9,aw 11 1 10,I 4 11] .ret))
@[simp] def WM:List bX:=[.tmp 4]
def QH:C:=(aa [bR 2 (.mov (.c (.nilp)))] (aa [I 5 0,cz 6 5,bR 7 (.bin .add false (eF 90411) (.t 6)),I 3 7] (.seq (aa [cd 4 0] (.block 0 (.loop (.seq (aa [I 8 4,I 9 0,cz 10 9,br 11 .lss 8 10,I 12 11,bW 12 true 13 4,au 12 true (aS 14 .lss 13 4000),dq 15 12 14] (aZ 15 .skip (.exit 0))) (.seq (.block 1 (.region [I 18 3,aS 19 .mul 18 131,I 20 0,I 21 4,cy 22 1 20 21,aw 23 1 22,bR 24 (.conv .i64 (.t 23)),br 25 .add 19 24,aS 26 .add 25 7,aS 27 .and 26 1073741823,I 3 27])) (.region [I 16 4,aS 17 .add 16 1,I 4 17])))))) (aa [I 28 0,I 29 3,bR 30 (.build [.slice 1 .nil [],.int .i64 0,.int .i64 0] [(0,1,(.t 28)),(2,1,(.t 29))]),cN (.box 31 (some 401) (.t 30)),I 2 31] .ret))))
@[simp] def WL:List bX:=[.tmp 2]
def QJ:C:=(aa [c1 2 dd] (aa [I 4 0,dj 5 48 [.t 4,(eF 7)],I 3 5] (.seq (aa [I 6 3,aS 7 .lss 6 2] (aZ 7 (aa [I 8 3,cR 9 133 8,bN 4 2 9] .ret) .skip)) (.seq (aa [I 10 3,aS 11 .lss 10 5] (aZ 11 (aa [cN (.bsl 12 1 9 [(.c (.str [97])),(.c (.str [98])),(.c (.str [99]))]),I 13 3,aS 14 .sub 13 2,cy 15 1 12 14,aw 16 1 15,cR 17 134 16,bN 4 2 17] .ret) .skip)) (aa [hD 18 dd [],bN 4 2 18] .ret)))))
@[simp] def WN:List bX:=[.cell 2 true 4]
def QO:C:=(aa [c1 2 dd] (aa [I 3 0,hD 4 dd [(0,1,(eF 3)),(1,1,(.t 3))],bN 4 2 4] .ret))
@[simp] def WQ:List bX:=[.cell 2 true 4]
def QT:C:=(aa [c1 2 dd] (aa [I 3 0,hD 4 dd [(0,1,(eF 2)),(2,1,(.t 3))],bN 4 2 4] .ret))
@[simp] def WU:List bX:=[.cell 2 true 4]
def rp:List (Nat×dz):=[
 (3,⟨1,8,.int .i64,.int .i64 0⟩),
 (5,⟨1,1,.int .u8,.int .u8 0⟩),
 (9,⟨1,16,.str,.str []⟩),
 (22,⟨1,24,.slice 5,.slice 1 .nil []⟩),
 (23,⟨1,24,.slice 54,.slice 5 .nil []⟩),
 (24,⟨1,24,.slice 23,.slice 1 .nil []⟩),
 (25,⟨1,24,.slice 59,.slice 2 .nil []⟩),
 (26,⟨1,24,.slice 56,.slice 2 .nil []⟩),
 (28,⟨5,104,.struct [(0,3),(1,23),(2,24),(3,25),(4,26)],.agg [.int .i64 0,.slice 5 .nil [],.slice 1 .nil [],.slice 2 .nil [],.slice 2 .nil []]⟩),
 (34,⟨1,24,.slice 36,.slice 4 .nil []⟩),
 (36,⟨4,56,.struct [(0,3),(1,3),(2,9),(3,34)],.agg [.int .i64 0,.int .i64 0,.str [],.slice 4 .nil []]⟩),
 (84,⟨1,24,.slice 9,.slice 1 .nil []⟩),
 (116,⟨3,40,.struct [(0,22),(1,3),(2,3)],.agg [.slice 1 .nil [],.int .i64 0,.int .i64 0]⟩)]
theorem rr:fI az rp=true:=by kernel_rfl
theorem ai7:b7 rp QA akG 3 Tryz.f6=true:=by kernel_rfl
theorem acs:az.funcs[(6:Nat)]? =some Tryz.f6:=Tryz.func6
theorem ajG:b7 rp Q9 M1 3 Tryz.f20=true:=by kernel_rfl
theorem ac2:az.funcs[(20:Nat)]? =some Tryz.f20:=Tryz.func20
theorem ajJ:b7 rp Rc WZ 2 Tryz.f21=true:=by kernel_rfl
theorem ac5:az.funcs[(21:Nat)]? =some Tryz.f21:=Tryz.func21
theorem aji:b7 rp QL Hz 3 Tryz.f35=true:=by kernel_rfl
theorem acE:az.funcs[(35:Nat)]? =some Tryz.f35:=Tryz.func35
theorem VO:b7 rp Jq MR 1 Tryz.f44=true:=by kernel_rfl
theorem R4:az.funcs[(44:Nat)]? =some Tryz.f44:=Tryz.func44
theorem ajc:b7 rp QF MQ 2 Tryz.f48=true:=by kernel_rfl
theorem acy:az.funcs[(48:Nat)]? =some Tryz.f48:=Tryz.func48
theorem ajf:b7 rp QI WM 2 Tryz.f50=true:=by kernel_rfl
theorem acB:az.funcs[(50:Nat)]? =some Tryz.f50:=Tryz.func50
theorem aje:b7 rp QH WL 1 Tryz.f52=true:=by kernel_rfl
theorem acA:az.funcs[(52:Nat)]? =some Tryz.f52:=Tryz.func52
theorem ajg:b7 rp QJ WN 1 Tryz.f85=true:=by kernel_rfl
theorem acC:az.funcs[(85:Nat)]? =some Tryz.f85:=Tryz.func85
theorem ajl:b7 rp QO WQ 1 Tryz.f133=true:=by kernel_rfl
theorem acH:az.funcs[(133:Nat)]? =some Tryz.f133:=Tryz.func133
theorem ajq:b7 rp QT WU 1 Tryz.f134=true:=by kernel_rfl
theorem acM:az.funcs[(134:Nat)]? =some Tryz.f134:=Tryz.func134
end
end Go.Proofs.YtohaalphocaebaaGreatDoor
namespace Go.Pv
section
open Go
inductive b3 where
 |mk (kind n:Int) (name:List UInt8) (args:List b3)
def b3.kind:b3->Int| .mk k _ _ _=>k
def b3.num:b3->Int| .mk _ n _ _=>n
def b3.name:b3->List UInt8| .mk _ _ s _=>s
def b3.args:b3->List b3| .mk _ _ _ a=>a
mutual
def enc:b3->ai
 | .mk k n s a=>.agg [.int .i64 k,.int .i64 n,.str s,.slice 4 .no (qU a)]
def qU:List b3->List ai
 |[]=>[]
 |x::xs=>enc x::qU xs
end
theorem FB:∀l,qU l=l.map enc
 |[]=>rfl
 |x::xs=>by simp[qU,FB xs]
theorem Ci(t:b3):enc t= .agg [.int .i64 t.kind,.int .i64 t.num,.str t.name,.slice 4 .no (t.args.map enc)]:=by cases t;simp[enc,FB,b3.kind,b3.num,b3.name,b3.args]
mutual
theorem UE(S:aL->Prop):∀t:b3,aG S (enc t)
 | .mk k n s a=>by simp[enc,aG,aP,LA S a]
theorem LA(S:aL->Prop):∀l:List b3,aP S (qU l)
 |[]=>by simp[qU,aP]
 |x::xs=>by simp[qU,aP,UE S x,LA S xs]
end
mutual
theorem XB:∀t:b3,ey (enc t)=enc t
 | .mk k n s a=>by simp[enc,ey,dv,NF a]
theorem NF:∀l:List b3,dv (qU l)=qU l
 |[]=>by simp[qU,dv]
 |x::xs=>by simp[qU,dv,XB x,NF xs]
end
@[simp]theorem aqb(S:aL->Prop)(t:b3):aG S (enc t)=True:=eq_true (UE S t)
@[simp]theorem ap1(S:aL->Prop)(l:List b3):aP S (l.map enc)=True:=by rw[<-FB];exact eq_true (LA S l)
theorem alW(l:List b3):dv (l.map enc)=l.map enc:=by rw[<-FB];exact NF l
attribute [simp] XB alW
@[simp]theorem aru(t:b3):eO (enc t)=true:=by rw[Ci];rfl
@[simp]theorem aor(t:b3):cells (enc t)=[.int .i64 t.kind,.int .i64 t.num,.str t.name,.slice 4 .no (t.args.map enc)]:=by rw[Ci];rfl
@[simp]theorem anQ(t:b3):ai.agg [.int .i64 t.kind,.int .i64 t.num,.str t.name,.slice 4 .no (t.args.map enc)]=enc t:=(Ci t).symm
@[simp]theorem apL(t:b3):Pv.isAgg 4 (enc t):=by rw[Ci];exact⟨_,rfl,rfl⟩
inductive T where
 |nil
 |var (n:Int)
 |sym (s:List UInt8)
 |num (n:Int)
 |pair (a b:T)
 deriving mA,Inhabited
def T.tm:T->b3
 | .nil=>.mk 0 0 [] []
 | .var n=>.mk 1 n [] []
 | .sym s=>.mk 2 0 s []
 | .num n=>.mk 3 n [] []
 | .pair a b=>.mk 4 0 [] [a.tm,b.tm]
def T.e:T->ai
 | .nil=>.agg [.int .i64 0,.int .i64 0,.str [],.slice 4 .no []]
 | .var n=>.agg [.int .i64 1,.int .i64 n,.str [],.slice 4 .no []]
 | .sym s=>.agg [.int .i64 2,.int .i64 0,.str s,.slice 4 .no []]
 | .num n=>.agg [.int .i64 3,.int .i64 n,.str [],.slice 4 .no []]
 | .pair a b=>.agg [.int .i64 4,.int .i64 0,.str [],.slice 4 .no [a.e,b.e]]
theorem rN:∀t:T,enc t.tm=t.e
 | .nil| .var _| .sym _| .num _=>rfl
 | .pair a b=>by simp[T.tm,enc,qU,T.e,rN a,rN b]
def T.kind:T->Int
 | .nil=>0| .var _=>1| .sym _=>2| .num _=>3| .pair _ _=>4
def T.int:T->Int
 | .var n=>n| .num n=>n|_=>0
def T.name:T->List UInt8
 | .sym s=>s|_=>[]
def T.args:T->List T
 | .pair a b=>[a,b]|_=>[]
theorem T.e_eq(t:T):t.e= .agg [.int .i64 t.kind,.int .i64 t.int,.str t.name,.slice 4 .no (t.args.map T.e)]:=by cases t<;>rfl
@[simp]theorem anP(t:T):ai.agg [.int .i64 t.kind,.int .i64 t.int,.str t.name,.slice 4 .no (t.args.map T.e)]=t.e:=(T.e_eq t).symm
@[simp]theorem anR:ai.agg [.int .i64 0,.int .i64 0,.str [],.slice 4 .no []]=T.nil.e:=rfl
@[simp]theorem anV(n:Int):ai.agg [.int .i64 1,.int .i64 n,.str [],.slice 4 .no []]=(T.var n).e:=rfl
@[simp]theorem anU(s:List UInt8):ai.agg [.int .i64 2,.int .i64 0,.str s,.slice 4 .no []]=(T.sym s).e:=rfl
@[simp]theorem anS(n:Int):ai.agg [.int .i64 3,.int .i64 n,.str [],.slice 4 .no []]=(T.num n).e:=rfl
@[simp]theorem anT(a b:T):ai.agg [.int .i64 4,.int .i64 0,.str [],.slice 4 .no [a.e,b.e]]=(T.pair a b).e:=rfl
@[simp]theorem aoR(off:Nat)(fW:Bool)(sz:Nat)(t:T):qW off fW sz (.eptr t.e)=if fW then some (off+sz<=4,.eptr (.agg (([.int .i64 t.kind,.int .i64 t.int,.str t.name,.slice 4 .no (t.args.map T.e)].drop off).take sz)))else(([.int .i64 t.kind,.int .i64 t.int,.str t.name,.slice 4 .no (t.args.map T.e)]:List ai)[off]?).map fun p=>(eO p=true/\cells p=[p],.eptr p):=by rw[T.e_eq];rfl
@[simp]theorem agT:(T.nil).kind=0:=rfl
@[simp]theorem agi:(T.nil).int=0:=rfl
@[simp]theorem ahD:(T.nil).name=[]:=rfl
@[simp]theorem Zr:(T.nil).args=[]:=rfl
@[simp]theorem agX(n:Int):(T.var n).kind=1:=rfl
@[simp]theorem agm(n:Int):(T.var n).int=n:=rfl
@[simp]theorem ahH(n:Int):(T.var n).name=[]:=rfl
@[simp]theorem Zv(n:Int):(T.var n).args=[]:=rfl
@[simp]theorem agW(s:List UInt8):(T.sym s).kind=2:=rfl
@[simp]theorem agl(s:List UInt8):(T.sym s).int=0:=rfl
@[simp]theorem ahG(s:List UInt8):(T.sym s).name=s:=rfl
@[simp]theorem Zu(s:List UInt8):(T.sym s).args=[]:=rfl
@[simp]theorem agU(n:Int):(T.num n).kind=3:=rfl
@[simp]theorem agj(n:Int):(T.num n).int=n:=rfl
@[simp]theorem ahE(n:Int):(T.num n).name=[]:=rfl
@[simp]theorem Zs(n:Int):(T.num n).args=[]:=rfl
@[simp]theorem agV(a b:T):(T.pair a b).kind=4:=rfl
@[simp]theorem agk(a b:T):(T.pair a b).int=0:=rfl
@[simp]theorem ahF(a b:T):(T.pair a b).name=[]:=rfl
@[simp]theorem Zt(a b:T):(T.pair a b).args=[a,b]:=rfl
@[simp]theorem aqa(S:aL->Prop)(t:T):aG S t.e=True:=by rw[<-rN];simp
@[simp]theorem arO(t:T):ey t.e=t.e:=by rw[<-rN];simp
theorem Uz(S:aL->Prop):∀l:List T,aP S (l.map T.e)
 |[]=>by simp[aP]
 |x::xs=>by simp[aP,Uz S xs]
@[simp]theorem Uy(S:aL->Prop)(l:List T):aP S (l.map T.e)=True:=eq_true (Uz S l)
@[simp]theorem alV:∀l:List T,dv (l.map T.e)=l.map T.e
 |[]=>rfl
 |x::xs=>by simp[dv,alV xs]
@[simp]theorem art(t:T):eO t.e=true:=by rw[T.e_eq];rfl
@[simp]theorem aoq(t:T):cells t.e=[.int .i64 t.kind,.int .i64 t.int,.str t.name,.slice 4 .no (t.args.map T.e)]:=by rw[T.e_eq];rfl
@[simp]theorem apK(t:T):Pv.isAgg 4 t.e:=by rw[T.e_eq];exact⟨_,rfl,rfl⟩
def T.size:T->Nat
 | .pair a b=>1+a.size+b.size
 |_=>1
theorem T.size_pos(t:T):1<=t.size:=by cases t<;>simp[T.size]<;>omega
def low(b:UInt8):Bool:=decide (97<=b.toNat/\b.toNat<=122)
def mT(b:UInt8):Bool:=low b||decide (48<=b.toNat/\b.toNat<=57)||b.toNat==45
def iv(s:List UInt8):Bool:=decide (1<=s.length/\s.length<=12)&&low (s.getD 0 0)&&(s.drop 1).all mT
def T.ok:T->Bool
 | .nil=>true
 | .var n=>decide (0<=n/\n<=100000)
 | .sym s=>iv s
 | .num n=>decide (-1000000000<=n/\n<=1000000000)
 | .pair a b=>a.ok&&b.ok
def lv(k n:Int)(s:List UInt8):Bool:=if k=0 then n==0&&s==[]else if k=1 then decide (0<=n/\n<=100000)&&s==[]else if k=2 then n==0&&iv s else if k=3 then decide (-1000000000<=n/\n<=1000000000)&&s==[]else false
def fs:b3->Int->Int
 | .mk k n s [a,b],room=>if room<1\/k≠4\/n≠0\/s≠[]then-1 else if fs a (room-1)<0 then-1 else if fs b (room-1-fs a (room-1))<0 then-1 else 1+fs a (room-1)+fs b (room-1-fs a (room-1))
 | .mk k n s args,room=>if room<1\/k=4\/args≠[]\/lv k n s=false then-1 else 1
theorem Mc(k n:Int)(s:List UInt8)(args:List b3)(room:Int):fs (.mk k n s args) room=if room<1 then-1 else if k≠4 then(if args≠[]then-1 else if lv k n s then 1 else-1)else if n≠0\/s≠[]then-1 else match args with
  |[a,b]=>if fs a (room-1)<0 then-1 else if fs b (room-1-fs a (room-1))<0 then-1 else 1+fs a (room-1)+fs b (room-1-fs a (room-1))
  |_=> -1:=by
 match args with
 |[]=>simp only[fs];by_cases J:room<1<;>by_cases U:k=4<;>by_cases ar:lv k n s=true<;>simp[J,U,ar]
 |[a]=>simp[fs]
 |[a,b]=>simp only[fs];by_cases J:room<1<;>by_cases U:k=4<;>simp[J,U]
 |a::b::c::r=>simp[fs]
theorem G8:∀(t:T) (room:Int),fs t.tm room=if t.ok=true/\(t.size:Int)<=room then(t.size:Int)else-1
 | .nil,room=>by simp[T.tm,fs,T.ok,T.size,lv];split<;>rename_i h<;>simp_all<;>omega
 | .var n,room=>by simp[T.tm,fs,T.ok,T.size,lv];split<;>split<;>simp_all<;>omega
 | .sym s,room=>by simp[T.tm,fs,T.ok,T.size,lv];by_cases J:room<1<;>by_cases U:iv s=true<;>simp[J,U]<;>omega
 | .num n,room=>by simp[T.tm,fs,T.ok,T.size,lv];split<;>split<;>simp_all<;>omega
 | .pair a b,room=>by
  have bk:=a.size_pos;have ab:=b.size_pos;simp only[T.tm,fs,G8 a,G8 b,T.ok,T.size,cE];by_cases J:room<1
  ·simp[J];omega
  ·by_cases U:a.ok=true/\(a.size:Int)<=room-1
   ·rw[if_pos U];by_cases ar:b.ok=true/\(b.size:Int)<=room-1-a.size
    ·rw[if_pos ar];simp[J,U.1,ar.1];split<;>omega
    ·rw[if_neg ar];simp[J,U.1];intro j5;have:=ar;simp[j5]at this;omega
   ·rw[if_neg U];simp[J];intro ln;have:=U;simp[ln]at this;omega
theorem DH:∀(t:b3) (room:Int),fs t room= -1\/1<=fs t room
 | .mk k n s [a,b],room=>by
  simp only[fs];split
  ·exact .inl rfl
  ·split
   ·exact .inl rfl
   ·split
    ·exact .inl rfl
    ·right;omega
 | .mk k n s [],room=>by simp only[fs];split<;>simp
 | .mk k n s [a],room=>by simp[fs]
 | .mk k n s (a::b::c::r),room=>by simp[fs]
theorem Me:∀(t:b3) (room:Int),0<fs t room->∃x:T,x.tm=t
 | .mk k n s [a,b],room,h=>by
  simp only[fs]at h;split at h
  ·omega
  ·rename_i J;simp only[not_or,Int.not_lt,ne_eq,arX]at J;obtain⟨J,rfl,rfl,rfl⟩:=J;split at h
   ·omega
   ·split at h
    ·omega
    ·obtain⟨x,rfl⟩:=Me a (room-1) (by rcases DH a (room-1)with h|h<;>omega);obtain⟨y,rfl⟩:=Me b (room-1-fs x.tm (room-1)) (by rcases DH b (room-1-fs x.tm (room-1))with h|h<;>omega);exact⟨.pair x y,rfl⟩
 | .mk k n s [],room,h=>by
  simp only[fs]at h;split at h
  ·omega
  ·rename_i J;simp only[not_or,ne_eq,not_true_eq_false,not_false_eq_true,true_and,Bool.not_eq_false]at J;obtain⟨_,_,J⟩:=J;unfold lv at J;split at J
   ·rename_i e;subst e;simp at J;obtain⟨rfl,rfl⟩:=J;exact⟨.nil,rfl⟩
   ·split at J
    ·rename_i e;subst e;simp at J;obtain⟨_,rfl⟩:=J;exact⟨.var n,rfl⟩
    ·split at J
     ·rename_i e;subst e;simp at J;obtain⟨rfl,_⟩:=J;exact⟨.sym s,rfl⟩
     ·split at J
      ·rename_i e;subst e;simp at J;obtain⟨_,rfl⟩:=J;exact⟨.num n,rfl⟩
      ·cases J
 | .mk k n s [a],room,h=>by simp[fs]at h
 | .mk k n s (a::b::c::r),room,h=>by simp[fs]at h
theorem Md:∀(t:b3) (room:Int),fs t room<=room\/fs t room= -1
 | .mk k n s [a,b],room=>by
  simp only[fs];split
  ·exact .inr rfl
  ·split
   ·exact .inr rfl
   ·split
    ·exact .inr rfl
    ·rcases Md b (room-1-fs a (room-1))with h|h<;>omega
 | .mk k n s [],room=>by simp only[fs];split<;>simp;rename_i h;omega
 | .mk k n s [a],room=>by simp[fs]
 | .mk k n s (a::b::c::r),room=>by simp[fs]
mutual
def b3.sz:b3->Nat
 | .mk _ _ _ a=>1+b3.szL a
def b3.szL:List b3->Nat
 |[]=>0
 |x::xs=>x.sz+b3.szL xs
end
theorem XE:∀{l:List b3} {x:b3},x∈l->x.sz<=b3.szL l
 |y::l,x,h=>by
  rcases fD.1 h with rfl|h
  ·simp[b3.szL]
  ·have:=XE h;simp[b3.szL];omega
theorem al1{t x:b3}(h:x∈t.args):x.sz<t.sz:=by cases t;simp[b3.args]at h;have:=XE h;simp[b3.sz];omega
def T.fit(t:T):Bool:=t.ok&&decide (t.size<=5000)
def b3.fits(t:b3):Bool:=decide (0<fs t 5000)
theorem b3.fits_T(t:T):t.tm.fits=t.fit:=by
 unfold b3.fits T.fit;rw[G8];have:=t.size_pos;by_cases J:t.ok=true<;>by_cases U:t.size<=5000
 ·rw[if_pos ⟨J,Ω⟩];simp[J,U];omega
 ·rw[if_neg Ω];simp[U]
 ·rw[if_neg (by simp[J])];simp[J]
 ·rw[if_neg (by simp[J])];simp[J]
theorem b3.fits_ex{t:b3}(h:t.fits=true):∃x:T,x.tm=t/\x.fit=true:=by obtain⟨x,rfl⟩:=Me t 5000 (by simpa[b3.fits]using h);exact⟨x,rfl,by rw[<-b3.fits_T];exact h⟩
structure ak where
 v:Int
 t:T
 deriving mA,Inhabited
def ak.e(b:ak):ai:= .agg [.int .i64 b.v,.int .i64 b.t.kind,.int .i64 b.t.int,.str b.t.name,.slice 4 .no (b.t.args.map T.e)]
@[simp]theorem ak.eta(b:ak):ak.mk b.v b.t=b:=rfl
@[simp]theorem OK(v:Int)(t:T):ai.agg [.int .i64 v,.int .i64 t.kind,.int .i64 t.int,.str t.name,.slice 4 .no (t.args.map T.e)]=(ak.mk v t).e:=rfl
@[simp]theorem anK(v:Int):ai.agg [.int .i64 v,.int .i64 0,.int .i64 0,.str [],.slice 4 .no []]=(ak.mk v .nil).e:=rfl
@[simp]theorem anO(v n:Int):ai.agg [.int .i64 v,.int .i64 1,.int .i64 n,.str [],.slice 4 .no []]=(ak.mk v (.var n)).e:=rfl
@[simp]theorem anN(v:Int)(s:List UInt8):ai.agg [.int .i64 v,.int .i64 2,.int .i64 0,.str s,.slice 4 .no []]=(ak.mk v (.sym s)).e:=rfl
@[simp]theorem anL(v n:Int):ai.agg [.int .i64 v,.int .i64 3,.int .i64 n,.str [],.slice 4 .no []]=(ak.mk v (.num n)).e:=rfl
@[simp]theorem anM(v:Int)(a b:T):ai.agg [.int .i64 v,.int .i64 4,.int .i64 0,.str [],.slice 4 .no [a.e,b.e]]=(ak.mk v (.pair a b)).e:=rfl
@[simp]theorem ap6(S:aL->Prop)(b:ak):aG S b.e=True:=by simp[ak.e,-OK]
@[simp]theorem arJ(b:ak):ey b.e=b.e:=by simp[ak.e,-OK]
theorem Uw(S:aL->Prop):∀l:List ak,aP S (l.map ak.e)
 |[]=>by simp[aP]
 |x::xs=>by simp[aP,Uw S xs]
@[simp]theorem apY(S:aL->Prop)(l:List ak):aP S (l.map ak.e)=True:=eq_true (Uw S l)
@[simp]theorem XA:∀l:List ak,dv (l.map ak.e)=l.map ak.e
 |[]=>rfl
 |x::xs=>by simp[dv,XA xs]
@[simp]theorem ark(b:ak):eO b.e=true:=rfl
@[simp]theorem aol(b:ak):cells b.e=[.int .i64 b.v,.int .i64 b.t.kind,.int .i64 b.t.int,.str b.t.name,.slice 4 .no (b.t.args.map T.e)]:=rfl
@[simp]theorem apI(b:ak):Pv.isAgg 5 b.e:=⟨_,rfl,rfl⟩
@[simp]theorem aoY(off:Nat)(fW:Bool)(sz:Nat)(b:ak):uN off fW sz b.e=if fW then some (off+sz<=5,.agg (([.int .i64 b.v,.int .i64 b.t.kind,.int .i64 b.t.int,.str b.t.name,.slice 4 .no (b.t.args.map T.e)].drop off).take sz))else(([.int .i64 b.v,.int .i64 b.t.kind,.int .i64 b.t.int,.str b.t.name,.slice 4 .no (b.t.args.map T.e)]:List ai)[off]?).map fun p=>(True,p):=rfl
@[simp]theorem aoP(off:Nat)(fW:Bool)(sz:Nat)(b:ak):qW off fW sz (.eptr b.e)=if fW then some (off+sz<=5,.eptr (.agg (([.int .i64 b.v,.int .i64 b.t.kind,.int .i64 b.t.int,.str b.t.name,.slice 4 .no (b.t.args.map T.e)].drop off).take sz)))else(([.int .i64 b.v,.int .i64 b.t.kind,.int .i64 b.t.int,.str b.t.name,.slice 4 .no (b.t.args.map T.e)]:List ai)[off]?).map fun p=>(eO p=true/\cells p=[p],.eptr p):=rfl
def T.occ(v:Int):T->Bool
 | .var n=>n==v
 | .pair a b=>a.occ v||b.occ v
 |_=>false
def ev(a b:Int):Int:=if a<b then-1 else if b<a then 1 else 0
def kT(a b:List UInt8):Int:=if a=b then 0 else if hE a b then-1 else 1
def et:T->T->Int
 | .pair a b,.pair c d=>if et a c=0 then et b d else et a c
 |x,y=>if x.kind≠y.kind then ev x.kind y.kind else if x.int≠y.int then ev x.int y.int else kT x.name y.name
structure dF where
 v:Int
 t:b3
def dF.e(b:dF):ai:= .agg [.int .i64 b.v,.int .i64 b.t.kind,.int .i64 b.t.num,.str b.t.name,.slice 4 .no (b.t.args.map enc)]
def ak.b(b:ak):dF:=⟨b.v,b.t.tm⟩
theorem ak.b_e(b:ak):b.b.e=b.e:=by obtain⟨v,t⟩:=b;cases t<;>simp only[ak.b,dF.e,ak.e,T.tm,b3.kind,b3.num,b3.name,b3.args,rN,agT,agX,agW,agU,agV,agi,agm,agl,agj,agk,ahD,ahH,ahG,ahE,ahF,Zr,Zv,Zu,Zs,Zt,hk,qG]
@[simp]theorem dF.eta(b:dF):dF.mk b.v b.t=b:=rfl
@[simp]theorem OL(v:Int)(t:b3):ai.agg [.int .i64 v,.int .i64 t.kind,.int .i64 t.num,.str t.name,.slice 4 .no (t.args.map enc)]=(dF.mk v t).e:=rfl
@[simp]theorem ap7(S:aL->Prop)(b:dF):aG S b.e=True:=by simp[dF.e,-OL]
@[simp]theorem arK(b:dF):ey b.e=b.e:=by simp[dF.e,-OL]
theorem Ux(S:aL->Prop):∀l:List dF,aP S (l.map dF.e)
 |[]=>by simp[aP]
 |x::xs=>by simp[aP,Ux S xs]
@[simp]theorem apZ(S:aL->Prop)(l:List dF):aP S (l.map dF.e)=True:=eq_true (Ux S l)
@[simp]theorem alU:∀l:List dF,dv (l.map dF.e)=l.map dF.e
 |[]=>rfl
 |x::xs=>by simp[dv,alU xs]
@[simp]theorem arn(b:dF):eO b.e=true:=rfl
@[simp]theorem aon(b:dF):cells b.e=[.int .i64 b.v,.int .i64 b.t.kind,.int .i64 b.t.num,.str b.t.name,.slice 4 .no (b.t.args.map enc)]:=rfl
@[simp]theorem apJ(b:dF):Pv.isAgg 5 b.e:=⟨_,rfl,rfl⟩
@[simp]theorem aoZ(off:Nat)(fW:Bool)(sz:Nat)(b:dF):uN off fW sz b.e=if fW then some (off+sz<=5,.agg (([.int .i64 b.v,.int .i64 b.t.kind,.int .i64 b.t.num,.str b.t.name,.slice 4 .no (b.t.args.map enc)].drop off).take sz))else(([.int .i64 b.v,.int .i64 b.t.kind,.int .i64 b.t.num,.str b.t.name,.slice 4 .no (b.t.args.map enc)]:List ai)[off]?).map fun p=>(True,p):=rfl
@[simp]theorem aoQ(off:Nat)(fW:Bool)(sz:Nat)(b:dF):qW off fW sz (.eptr b.e)=if fW then some (off+sz<=5,.eptr (.agg (([.int .i64 b.v,.int .i64 b.t.kind,.int .i64 b.t.num,.str b.t.name,.slice 4 .no (b.t.args.map enc)].drop off).take sz)))else(([.int .i64 b.v,.int .i64 b.t.kind,.int .i64 b.t.num,.str b.t.name,.slice 4 .no (b.t.args.map enc)]:List ai)[off]?).map fun p=>(eO p=true/\cells p=[p],.eptr p):=rfl
def A7(l:List dF)(i:Nat):Prop:= ∀b,l[i]? =some b->(0<=b.v/\b.v<=100000)/\(∀c,0<i->l[i-1]? =some c->c.v<b.v)/\b.t.fits=true
def uz(l:List dF):Prop:=l.length<=400/\∀i,i<l.length->A7 l i
theorem re:∀a b:T,et a b=0↔a=b
 | .pair a b,.pair c d=>by
  simp only[et,T.pair.injEq];split
  ·rename_i h;rw[re b d,<-re a c];simp[h]
  ·rename_i h;simp[h,<-re a c]
 | .nil,y=>by cases y<;>simp[et,ev,kT]
 | .var n,y=>by cases y<;>simp[et,ev,kT]<;>omega
 | .sym s,y=>by cases y<;>simp[et,ev,kT];rename_i ah;by_cases h:s=ah<;>simp[h];by_cases U:hE s ah=true<;>simp[U]
 | .num n,y=>by cases y<;>simp[et,ev,kT]<;>omega
 | .pair a b,.nil| .pair a b,.var _| .pair a b,.sym _| .pair a b,.num _=>by simp[et,ev]
def T.sub(f:Int->Option T):T->T
 | .var n=>match f n with|some x=>x|none=>.var n
 | .pair a b=>.pair (a.sub f) (b.sub f)
 |t=>t
def lx(f:Int->Int):T->Int
 | .var n=>if 5001<f n then 5001 else f n
 | .pair a b=>if 5000<lx f a then lx f a else if 5001<1+lx f a+lx f b then 5001 else 1+lx f a+lx f b
 |_=>1
theorem H6(f:Int->Int)(aR:∀v,-1<=f v):∀t,-1<=lx f t/\lx f t<=5001
 | .var n=>by have:=aR n;simp only[lx];split<;>omega
 | .pair a b=>by have:=H6 f aR a;have:=H6 f aR b;simp only[lx];split<;>(try split)<;>omega
 | .nil| .sym _| .num _=>by simp[lx]
def cU(l:List ak)(v:Int):Option T:=(l.find? fun b=>b.v==v).map (·.t)
end
end Go.Pv
namespace Go.Proofs.YtohaalphocaebaaGreatDoor
section
open Go Go.Pv
structure dQ where
 d:List Int
 i:Nat
 h:Int
def iQ(d:List Int):List ai:=d.map (ai.int .u8)
def dQ.e(c:dQ):List ai:=[.slice 1 .no (iQ c.d),.int .i64 c.i,.int .i64 c.h]
def cB(c:dQ):cS:=⟨[(.obj 401,c.e)],[]⟩
@[simp]theorem apT(S:aL->Prop)(d:List Int):aP S (iQ d)=True:=by
 apply eq_true;induction d with
 |nil=>simp[-cG,-cr,iQ,aP]
 |cons x r bU=>simp only[iQ,hk,aP,aG]at bU⊢;exact⟨trivial,bU⟩
@[simp]theorem arL(d:List Int):dv (iQ d)=iQ d:=by
 induction d with
 |nil=>rfl
 |cons x r bU=>simp only[iQ,hk,dv,ey]at bU⊢;rw[bU]
@[simp]theorem aoh(d:List Int):(iQ d).length=d.length:=by simp[-cG,-cr,iQ]
theorem I7{d:List Int}{i:Nat}{x:Int}(h:d[i]? =some x):(iQ d)[i]? =some (.int .u8 x):=by simp[-cG,-cr,iQ,h]
theorem gR(c:dQ):dR (cB c):=by unfold cB;exact dR.of ⟨by intro m;simp[-cG,-cr,Pv.look],by intro m;simp[-cG,-cr,Pv.look]⟩ (by simp[-cG,-cr,dQ.e,aP,aG]) (by simp[-cG,-cr])
theorem jw(c cp:dQ):Same (cB c) (cB cp):=by refine⟨fun k=>?_,fun k=>rfl⟩;simp only[cB,Pv.look];split<;>rfl
def uH(d:List Int):Prop:= ∀x∈d,0<=x/\x<256
def A3(h:Int):Int:=nk.wrap (nk.wrap (h*6364136223846793005)+1442695040888963407)
def xO(k:IntKind)(a b:Int):Int:=k.wrap (l3 k.bits a&&& l3 k.bits b).toNat
def YI(k:IntKind)(a b:Int):Int:=k.wrap (l3 k.bits a ^^^ l3 k.bits b).toNat
def Nx(k:IntKind)(a b:Int):Int:=a.fdiv (2 ^ (min b.toNat k.bits))
section
variable (a b:Int)
@[simp]theorem anZ:cr .add false (.int .i64 a) (.int .i64 b)=some (oZ (a+b),.int .i64 (a+b)):=by unfold cr cG;simp[-cG,-cr]
@[simp]theorem an0:cr .add true (.int .i64 a) (.int .i64 b)=some (True,.int .i64 (nk.wrap (a+b))):=rfl
@[simp]theorem aod:cr .sub false (.int .i64 a) (.int .i64 b)=some (oZ (a-b),.int .i64 (a-b)):=by unfold cr cG;simp[-cG,-cr]
@[simp]theorem an7:cr .mul false (.int .i64 a) (.int .i64 b)=some (oZ (a*b),.int .i64 (a*b)):=by unfold cr cG;simp[-cG,-cr]
@[simp]theorem an8:cr .mul true (.int .i64 a) (.int .i64 b)=some (True,.int .i64 (nk.wrap (a*b))):=rfl
@[simp]theorem aoa:cr .quo false (.int .i64 a) (.int .i64 b)=some (b≠0,.int .i64 (nk.wrap (a.tdiv b))):=rfl
@[simp]theorem aob:cr .rem false (.int .i64 a) (.int .i64 b)=some (b≠0,.int .i64 (a.tmod b)):=rfl
@[simp]theorem an2:cr .eql false (.int .i64 a) (.int .i64 b)=some (True,.bool (a==b)):=rfl
@[simp]theorem an9:cr .neq false (.int .i64 a) (.int .i64 b)=some (True,.bool (a !=b)):=rfl
@[simp]theorem an6:cr .lss false (.int .i64 a) (.int .i64 b)=some (True,.bool (decide (a<b))):=rfl
@[simp]theorem an5:cr .leq false (.int .i64 a) (.int .i64 b)=some (True,.bool (decide (a<=b))):=rfl
@[simp]theorem an4:cr .gtr false (.int .i64 a) (.int .i64 b)=some (True,.bool (decide (b<a))):=rfl
@[simp]theorem an3:cr .geq false (.int .i64 a) (.int .i64 b)=some (True,.bool (decide (b<=a))):=rfl
@[simp]theorem an1:cr .and false (.int .i64 a) (.int .i64 b)=some (True,.int .i64 (xO .i64 a b)):=rfl
@[simp]theorem aoe:cr .xor false (.int .i64 a) (.int .i64 b)=some (True,.int .i64 (YI .i64 a b)):=rfl
@[simp]theorem aoc(k:IntKind):cr .shr false (.int .i64 a) (.int k b)=some (0<=b,.int .i64 (Nx .i64 a b)):=rfl
end
theorem IW(x m:Int)(bE:0<=m)(J:m<9223372036854775807):0<=xO .i64 x m/\xO .i64 x m<=m:=by
 have hm:(l3 64 m).toNat=m.toNat:=by rw[BitVec.toNat_ofInt];omega
 have h:(l3 64 x&&& l3 64 m).toNat<=m.toNat:=by rw[BitVec.toNat_and,hm];exact Nat.and_le_right
 unfold xO;rw[show nk.bits=64 from rfl,mB _ Ω];omega
def yN(h:Int):Int:=xO .i64 (YI .i64 (Nx .i64 h 33) (Nx .i64 h 45)) 255
theorem Vj(h:Int):0<=yN h/\yN h<=255:=IW _ _ Ω Ω
def dQ.byte(c:dQ):Int:=match c.d[c.i]? with|some x=>xO .i64 (yN (A3 c.h)+x) 255|none=>yN (A3 c.h)
def dQ.next(c:dQ):dQ:=⟨c.d,if c.i<c.d.length then c.i+1 else c.i,A3 c.h⟩
theorem dQ.byte_le(c:dQ):0<=c.byte/\c.byte<=255:=by
 unfold dQ.byte;split
 ·exact IW _ _ Ω Ω
 ·exact Vj _
structure dQ.ok (c:dQ):Prop where
 d:uH c.d
 l:c.d.length<=10000000
 i:c.i<=c.d.length
theorem dQ.ok.next{c:dQ}(h:c.ok):c.next.ok:=⟨h.d,h.l,by have:=h.i;simp only[dQ.next];split<;>omega⟩
theorem St(c:dQ)(aq:c.ok):bH az 44 [.ptr (.obj 401) 0] (cB c) fun r ah=>r= .int .i64 c.byte/\ah=cB c.next:=by
 have ag:=gR c;have fF:=gR c.next;have ei:=jw c c.next;obtain⟨d,i,h⟩:=c;obtain⟨aN,av,hi⟩:=aq;simp only at aN av hi;have og:=Vj (A3 h);simp only[yN]at og;by_cases bs:i<d.length
 ·obtain⟨x,ae⟩:∃x,d[i]? =some x:=⟨_,cf bs⟩;have kH:∀h,(iQ d)[i]'h= .int .u8 x:=fun h=>by have:=I7 ae;rw[cf h]at this;simpa using this
  have u7:=aN x (ed ae);have hw:nk.wrap x=x:=mB _ Ω;simp only[cB,dQ.e,dQ.next,bs,if_true]at ag fF ei⊢;refine bH.mk mixed rr R4 VO (by simp[-cG,-cr]) ag.obj fun aT cI=>?_;unfold Jq;simp[-cG,-cr,bs,kH,hw,<-A3.eq_1];(with_reducible repeat' first|((first|apply bJ|apply bM|apply bL)<;>intro h<;>try simp[-cG,-cr]at h)|refine aj ?_|simp[-cG,-cr]);refine cO.at _ (.inl rfl) fF ei aK aK ?_;simp[-cG,-cr,cT,MR,aW,aY,aV];simp[-cG,-cr,dQ.byte,ae,yN]
 ·have ae:d[i]? =none:=by simp[-cG,-cr];omega
  simp only[cB,dQ.e,dQ.next,bs,if_false]at ag fF ei⊢;refine bH.mk mixed rr R4 VO (by simp[-cG,-cr]) ag.obj fun aT cI=>?_;unfold Jq;simp[-cG,-cr,bs,<-A3.eq_1];(with_reducible repeat' first|((first|apply bJ|apply bM|apply bL)<;>intro h<;>try simp[-cG,-cr]at h)|refine aj ?_|simp[-cG,-cr]);refine cO.at _ (.inl rfl) fF ei aK aK ?_;simp[-cG,-cr,cT,MR,aW,aY,aV];simp[-cG,-cr,dQ.byte,ae,yN]
end
section
open Go Go.Pv
def agt(s:List UInt8)(k:Nat)(st:bm):Prop:=∃i:Nat,1<=i/\i<=s.length/\k=s.length-i/\((s.drop 1).all mT=(s.drop i).all mT)/\st=⟨[(0,.str s),(3,.int .i64 i)],[],[],0,[]⟩
theorem ui(s:List UInt8):bZ az 109 [.str s] (.bool (iv s)):=by
 refine bZ.mk mixed fJ abd ahU Ψ d6 fun ab=>?_;unfold Pm;simp;(with_reducible repeat' first|((first|refine bJ (fun h=>?_) fun h=>?_|refine bM (fun h=>?_) fun h=>?_|refine bL (fun h=>?_) fun h=>?_)<;>try simp at h)|refine aj ?_|simp);case refine_1.refine_1.refine_1.refine_2=>
  have afr:iv s=(s.drop 1).all mT:=by simp[iv,low];omega
  rw[afr];refine n5 (agt s) (s.length-1) _ ⟨Ψ,by simp[gz],by simp[nS],Ψ⟩ ⟨1,Ω,Ω,rfl,rfl,rfl⟩ ?_;rintro k st ⟨i,mi,hL,ad,k3,rfl⟩ jT cI;rw[k3];simp;refine bJ (fun bs=>?_) (fun wo=>?_)
  ·simp at bs;have aN:s.drop i=s[i]?.getD 0::s.drop (i+1):=by rw[kX bs];simp[bs]
   simp;(with_reducible repeat' first|((first|refine bJ (fun h=>?_) fun h=>?_|refine bM (fun h=>?_) fun h=>?_|refine bL (fun h=>?_) fun h=>?_)<;>try simp at h)|refine aj ?_|simp);all_goals first
    |(simp[bu,Ho,aW,aY,aV,aN,mT,low];omega)
    |(simp only[EO];refine⟨s.length-(i+1),_,Ω,⟨Ψ,by simp[gz],by simp[nS],Ψ⟩,i+1,Ω,Ω,rfl,?_,rfl⟩;rw[k3,aN];simp[mT,low];omega)
  ·simp at wo;have:s.drop i=[]:=by simp;omega
   simp[bu,Ho,aW,aY,aV,this]
 all_goals simp[bu,Ho,aW,aY,aV,iv,low]
 all_goals omega
theorem Yq(m:Nat):∀(t:b3),t.sz<=m->∀(room:Int),0<=room/\room<=10000->bZ az 114 [enc t,.int .i64 room] (.int .i64 (fs t room)):=by
 induction m with
 |zero=>intro t aM;cases t;simp[b3.sz]at aM
 |succ m bU=>
 rintro⟨k,n,s,args⟩ aM room sd;refine bz fJ abK air fun aT=>?_;unfold PU;simp[b3.kind,b3.num,b3.name,b3.args];(with_reducible repeat' first|((first|refine bJ (fun h=>?_) fun h=>?_|refine bM (fun h=>?_) fun h=>?_|refine bL (fun h=>?_) fun h=>?_)<;>try simp at h)|refine aj ?_|simp);all_goals try refine cW.val Ψ (ui _) ?_
 all_goals try simp
 (with_reducible repeat' first|((first|refine bJ (fun h=>?_) fun h=>?_|refine bM (fun h=>?_) fun h=>?_|refine bL (fun h=>?_) fun h=>?_)<;>try simp at h)|refine aj ?_|simp);all_goals try simp[bu,Hv,aW,aY,aV]
 case succ.refine_2.refine_2.refine_1.refine_1.refine_2=>
  rename_i bE J U ar;match args,h with
  |[a,b],_=>
  simp[b3.sz,b3.szL]at aM;subst J U ar;simp;(with_reducible repeat' first|((first|refine bJ (fun h=>?_) fun h=>?_|refine bM (fun h=>?_) fun h=>?_|refine bL (fun h=>?_) fun h=>?_)<;>try simp at h)|refine aj ?_|simp);refine cW.val Ψ (bU a Ω (room-1) Ω) ?_;simp;have bk:=Md a (room-1);have nz:=DH a (room-1);(with_reducible repeat' first|((first|refine bJ (fun h=>?_) fun h=>?_|refine bM (fun h=>?_) fun h=>?_|refine bL (fun h=>?_) fun h=>?_)<;>try simp at h)|refine aj ?_|simp)
  ·simp[bu,Hv,aW,aY,aV];rw[Mc];simp;omega
  ·refine cW.val Ψ (bU b Ω (room-1-fs a (room-1)) Ω) ?_;simp;have ab:=Md b (room-1-fs a (room-1));have fZ:=DH b (room-1-fs a (room-1));(with_reducible repeat' first|((first|refine bJ (fun h=>?_) fun h=>?_|refine bM (fun h=>?_) fun h=>?_|refine bL (fun h=>?_) fun h=>?_)<;>try simp at h)|refine aj ?_|simp);all_goals simp[bu,Hv,aW,aY,aV]
   all_goals rw[Mc];simp;omega
 all_goals rw[Mc]
 all_goals simp_all[lv]
 all_goals first|omega|(split<;>simp at h⊢)
theorem NZ(t:b3):bZ az 89 [enc t] (.bool t.fits):=by refine bz fJ abm ah3 fun aT=>?_;unfold Pw;simp;refine cW.val Ψ (Yq t.sz t (eX _) 5000 Ω) ?_;simp;simp[bu,We,aW,aY,aV];simp[b3.fits]
theorem amA(t:T):bZ az 89 [t.e] (.bool t.fit):=by have:=NZ t.tm;rwa[rN,b3.fits_T]at this
theorem Ir(a b:T):bZ az 154 [a.e,b.e] (T.pair a b).e:=by refine bz fJ abO aiv fun aT=>?_;unfold PY;simp;(with_reducible repeat' first|((first|refine bJ (fun h=>?_) fun h=>?_|refine bM (fun h=>?_) fun h=>?_|refine bL (fun h=>?_) fun h=>?_)<;>try simp at h)|refine aj ?_|simp);all_goals try simp[bu,Wv,aW,aY,aV]
theorem BM(a b:T):bZ az 83 [a.e,b.e] (T.pair a b).e:=by refine bz fJ acJ ajn fun aT=>?_;unfold QQ;simp;(with_reducible repeat' first|((first|refine bJ (fun h=>?_) fun h=>?_|refine bM (fun h=>?_) fun h=>?_|refine bL (fun h=>?_) fun h=>?_)<;>try simp at h)|refine aj ?_|simp);all_goals try simp[bu,WR,aW,aY,aV]
theorem uj(t:T):bZ az 136 [t.e] t.e:=by
 induction t with
 |pair a b dM dN=>refine bz fJ RV VF fun aT=>?_;unfold Je;exact cD
 |_=>refine bz fJ RV VF fun aT=>?_;unfold Je;exact cD
theorem oB(a b:Int):bZ az 155 [.int .i64 a,.int .i64 b] (.int .i64 (ev a b)):=by
 refine bz fJ abN aiu fun aT=>?_;unfold PX;simp;((with_reducible repeat' first|refine aj ?_|simp|((first|apply bJ|apply bM|apply bL)<;>intro h<;>try simp at h))<;>(try exact cc));all_goals simp[bu,Wu,aW,aY,aV]
 all_goals simp[ev]
 all_goals omega
theorem BO(a:T):∀b:T,bZ az 117 [a.e,b.e] (.int .i64 (et a b)):=by
 induction a with
 |pair bB a2 Gu Gv=>
  intro b;cases b with
  |pair ck ca=>
   refine bz fJ JW Mm fun aT=>?_;unfold Fh;simp;((with_reducible repeat' first|refine aj ?_|refine aD (Gu _) ?_|refine aE (Gu _) ?_|refine aD (Gv _) ?_|refine aE (Gv _) ?_|refine aD (oB _ _) ?_|refine aE (oB _ _) ?_|simp|((first|apply bJ|apply bM|apply bL)<;>intro h<;>try simp at h))<;>(try exact cc));all_goals simp[bu,Hw,aW,aY,aV]
   all_goals simp_all[et]
  |_=>
   refine bz fJ JW Mm fun aT=>?_;unfold Fh;simp;(with_reducible repeat' first|refine aj ?_|refine aD (oB _ _) ?_|refine aE (oB _ _) ?_|simp);all_goals simp[bu,Hw,aW,aY,aV]
   all_goals simp_all[et]
 |_=>
  intro b;cases b<;>
  (refine bz fJ JW Mm fun aT=>?_;unfold Fh
   simp
   (with_reducible repeat' first|((first|apply bJ|apply bM|apply bL)<;>intro h<;>try simp at h)|refine aj ?_|refine aD (oB _ _) ?_|refine aE (oB _ _) ?_|simp)
   all_goals simp[bu,Hw,aW,aY,aV]
   all_goals simp_all[et,kT])
theorem ry(a b:T):bZ az 64 [a.e,b.e] (.bool (decide (a=b))):=by
 refine bz fJ abC aij fun aT=>?_;unfold PL;simp;(with_reducible repeat' first|refine aj ?_|refine aD (BO _ _) ?_|refine aE (BO _ _) ?_|simp);all_goals simp[bu,Wn,aW,aY,aV]
 have:=re a b;by_cases h:et a b=0<;>simp_all
open Classical in
def agy(l:List dF)(k:Nat)(st:bm):Prop:=∃i:Nat,i<=l.length/\k=l.length-i/\(∀j,j<i->A7 l j)/\st=⟨[(0,.slice 5 .no (l.map dF.e)),(8,.slice 5 .no (l.map dF.e)),(9,.int .i64 l.length),(10,.int .i64 i)],[],[],0,[]⟩
open Classical in
theorem N1(l:List dF):bZ az 62 [.slice 5 .no (l.map dF.e)] (.bool (decide (uz l))):=by
 refine bz fJ abn ah4 fun aT=>?_;unfold Px;simp;(with_reducible repeat' first|((first|apply bJ|apply bM|apply bL)<;>intro h<;>try simp at h)|refine aj ?_|simp)
 ·simp[bu,Hp,aW,aY,aV];intro b4;have:=b4.1;omega
 ·refine n5 (agy l) l.length _ ⟨Ψ,by simp[gz],by simp[nS],Ψ⟩ ⟨0,Ω,Ω,Ψ,rfl⟩ ?_;rintro k st ⟨i,hi,ad,k3,rfl⟩ jT cI;simp;refine bJ (fun bs=>?_) (fun wo=>?_)
  ·simp at bs;obtain⟨b,ab⟩:∃b,l[i]? =some b:=⟨_,cf bs⟩;obtain⟨c,aq⟩:∃c,l[i-1]? =some c:=⟨_,cf Ω⟩;clear jT cI;simp[ab,aq];((with_reducible repeat' first|refine aj ?_|refine aD (NZ _) ?_|refine aE (NZ _) ?_|simp[aq]|((first|apply bJ|apply bM|apply bL)<;>intro h<;>try simp at h))<;>(try exact cc));all_goals first
    |(simp[bu,Hp,aW,aY,aV];intro b4;have J:=b4.2 i bs b ab;have U:=J.2.1 c;have ar:=J.2.2;first|omega|(have:=U Ω aq;omega)|(rw[ar]at h;cases h)|simp_all)
    |(simp only[EO];refine⟨l.length-(i+1),_,Ω,⟨Ψ,by simp[gz],by simp[nS],Ψ⟩,i+1,Ω,rfl,fun j af=>?_,rfl⟩
      by_cases e:j=i
      ·subst e;intro b0 fZ;rw[ab]at fZ;cases fZ;refine⟨Ω,fun cp bE hH=>?_,by assumption⟩;rw[aq]at hH;cases hH;omega
      ·exact k3 j Ω)
  ·simp at wo;simp[bu,Hp,aW,aY,aV];exact⟨Ω,fun j af=>k3 j Ω⟩
def dQ.below(c:dQ)(n:Int):Int:=if n<=0 then 0 else c.byte.tmod n
def dQ.belowC(c:dQ)(n:Int):dQ:=if n<=0 then c else c.next
theorem dQ.ok.below{c:dQ}(h:c.ok)(n:Int):(c.belowC n).ok:=by unfold dQ.belowC;split;exact h;exact h.next
theorem dQ.below_le(c:dQ)(n:Int)(ay:0<n):0<=c.below n/\c.below n<n:=by have:=c.byte_le;unfold dQ.below;rw[if_neg Ω];exact⟨Int.tmod_nonneg _ this.1,Int.tmod_lt_of_pos _ ay⟩
theorem x4(c:dQ)(aq:c.ok)(n:Int):bH az 48 [.ptr (.obj 401) 0,.int .i64 n] (cB c) fun r ah=>r= .int .i64 (c.below n)/\ah=cB (c.belowC n):=by
 have ag:=gR c;have ei:=jw c;refine bH.mk mixed rr acy ajc (by simp[-cG,-cr]) ag.obj fun aT cI=>?_;unfold QF;unfold cB;simp[-cG,-cr];(with_reducible repeat' first|((first|apply bJ|apply bM|apply bL)<;>intro h<;>try simp[-cG,-cr]at h)|refine aj ?_|simp[-cG,-cr])
 ·(refine cO.at (cB (c)) (.inl rfl) (gR _) (jw _ _) co co ?_;simp[-cG,-cr,cT,MQ,aW,aY,aV,cB]);simp[-cG,-cr,dQ.below,dQ.belowC,h]
 ·(refine cW.ob (St c aq) (gR _) co co (by simp[-cG,-cr,inObs,cB,Pv.look]) ?_;rintro r ah ⟨rfl,rfl⟩;refine⟨jw _ _,?_⟩;unfold cB;simp[-cG,-cr,cb]);((with_reducible repeat' first|refine aj ?_|simp[-cG,-cr]|((first|apply bJ|apply bM|apply bL)<;>intro h<;>try simp[-cG,-cr]at h))<;>(try exact cc));(refine cO.at (cB (c.next)) (.inl rfl) (gR _) (jw _ _) co co ?_;simp[-cG,-cr,cT,MQ,aW,aY,aV,cB]);have:¬n<=0:=Ω
  simp[-cG,-cr,dQ.below,dQ.belowC,this]
theorem Yh(n:Int):bZ az 84 [.int .i64 n] (T.var n).e:=by refine bz fJ R5 VP fun aT=>?_;unfold Jr;simp[-cG,-cr];simp[-cG,-cr,bu,WV,aW,aY,aV]
theorem Yf(n:Int):bZ az 133 [.int .i64 n] (T.num n).e:=by refine bz rr acH ajl fun aT=>?_;unfold QO;simp[-cG,-cr];simp[-cG,-cr,bu,WQ,aW,aY,aV]
theorem Yg(s:List UInt8):bZ az 134 [.str s] (T.sym s).e:=by refine bz rr acM ajq fun aT=>?_;unfold QT;simp[-cG,-cr];simp[-cG,-cr,bu,WU,aW,aY,aV]
def rK(k:Int):T:=if k<2 then .num k else if k<5 then .sym (([[97],[98],[99]]:List (List UInt8)).getD (k-2).toNat [])else .nil
theorem adI(c:dQ)(aq:c.ok):bH az 85 [.ptr (.obj 401) 0] (cB c) fun r ah=>r=(rK (c.below 7)).e/\ah=cB c.next:=by
 have ag:=gR c;have ab:=c.below_le 7 Ω;have ha:c.belowC 7=c.next:=by simp[-cG,-cr,dQ.belowC]
 refine bH.mk mixed rr acC ajg (by simp[-cG,-cr]) ag.obj fun aT cI=>?_;unfold QJ;unfold cB;simp[-cG,-cr];(refine cW.ob (x4 c aq 7) (gR _) co co (by simp[-cG,-cr,inObs,cB,Pv.look]) ?_;rintro r ah ⟨rfl,rfl⟩;refine⟨jw _ _,?_⟩;unfold cB;simp[-cG,-cr,cb]);rw[ha];generalize ad:c.below 7=k at ab⊢;obtain⟨bI,rfl⟩:∃bI:Nat,k=bI:=⟨k.toNat,Ω⟩;rcases(by omega:bI=0\/bI=1\/bI=2\/bI=3\/bI=4\/bI=5\/bI=6)with rfl|rfl|rfl|rfl|rfl|rfl|rfl;all_goals simp[-cG,-cr]
 all_goals(with_reducible repeat' first|refine aj ?_|refine aD (Yf _) ?_|refine aE (Yf _) ?_|refine aD (Yg _) ?_|refine aE (Yg _) ?_|simp[-cG,-cr])
 all_goals(refine cO.at (cB (c.next)) (.inl rfl) (gR _) (jw _ _) co co ?_;simp[-cG,-cr,cT,WN,aW,aY,aV,cB])
 all_goals simp[-cG,-cr,rK]
def eL(size:Nat)(vars:Int)(c:dQ):T×dQ:=
 if 2<size/\3<=c.below 8 then
  (.pair (eL (size/2) vars c.next).1 (eL (size/2) vars (eL (size/2) vars c.next).2).1,(eL (size/2) vars (eL (size/2) vars c.next).2).2)
 else if 0<vars/\(c.below 8).tmod 2=0 then(.var (c.next.below vars),c.next.belowC vars)
 else(rK (c.next.below 7),c.next.next)
termination_by size
theorem Cg(size:Nat)(vars:Int):∀c:dQ,c.ok->(eL size vars c).2.ok:=by
 induction size using rF with
 |ind size bU=>
  intro c aq;rw[eL];split
  ·rename_i h;exact bU _ Ω _ (bU _ Ω _ aq.next)
  ·split
   ·exact aq.next.below _
   ·exact aq.next.next
theorem Su(vars:Int)(aC:vars<=1000000)(size:Nat)(bf:size<=1000000):∀(c:dQ),c.ok->bH az 35 [.ptr (.obj 401) 0,.int .i64 size,.int .i64 vars] (cB c) fun r ah=>r=(eL size vars c).1.e/\ah=cB (eL size vars c).2:=by
 induction size using rF with
 |ind size bU=>
  intro c aq;have ag:=gR c;have ab:=c.below_le 8 Ω;have ha:c.belowC 8=c.next:=by simp[-cG,-cr,dQ.belowC]
  obtain⟨z,TT⟩:∃z,z=size/2:=⟨_,rfl⟩;have hdiv:nk.wrap ((size:Int)/2)=(z:Int):=by rw[mB _ Ω];omega
  have pK:∀h:2<size/\3<=c.below 8,eL size vars c=(.pair (eL z vars c.next).1 (eL z vars (eL z vars c.next).2).1,(eL z vars (eL z vars c.next).2).2):=fun h=>by rw[eL,if_pos h,TT]
  have aeM:∀(h:¬(2<size/\3<=c.below 8)) (b4:0<vars/\(c.below 8).tmod 2=0),eL size vars c=(.var (c.next.below vars),c.next.belowC vars):=fun h b4=>by rw[eL,if_neg h,if_pos b4]
  have aeJ:∀(h:¬(2<size/\3<=c.below 8)) (b4:¬(0<vars/\(c.below 8).tmod 2=0)),eL size vars c=(rK (c.next.below 7),c.next.next):=fun h b4=>by rw[eL,if_neg h,if_neg b4]
  have Dg:2<size->∀c:dQ,c.ok->bH az 35 [.ptr (.obj 401) 0,.int .i64 z,.int .i64 vars] (cB c) fun r ah=>r=(eL z vars c).1.e/\ah=cB (eL z vars c).2:=fun h=>bU z Ω Ω;clear bU;refine bH.mk mixed rr acE aji (by simp[-cG,-cr]) ag.obj fun aT cI=>?_;unfold QL;unfold cB;simp[-cG,-cr];(refine cW.ob (x4 c aq 8) (gR _) co co (by simp[-cG,-cr,inObs,cB,Pv.look]) ?_;rintro r ah ⟨rfl,rfl⟩;refine⟨jw _ _,?_⟩;unfold cB;simp[-cG,-cr,cb]);rw[ha];(with_reducible repeat' first|((first|apply bJ|apply bM|apply bL)<;>intro h<;>try simp[-cG,-cr]at h)|refine aj ?_|simp[-cG,-cr,hdiv])
  ·rename_i U;(refine cW.ob (Dg Ω c.next aq.next) (gR _) co co (by simp[-cG,-cr,inObs,cB,Pv.look]) ?_;rintro r ah ⟨rfl,rfl⟩;refine⟨jw _ _,?_⟩;unfold cB;simp[-cG,-cr,cb]);((with_reducible repeat' first|refine aj ?_|simp[-cG,-cr,hdiv]|((first|apply bJ|apply bM|apply bL)<;>intro h<;>try simp[-cG,-cr]at h))<;>(try exact cc));(refine gW.ob (Dg Ω (eL z vars c.next).2 (Cg _ _ _ aq.next)) (gR _) (gR _) (jw _ _) co co (by simp[-cG,-cr,inObs,cB,Pv.look]) ?_;unfold cB;simp[-cG,-cr,cb]);(with_reducible repeat' first|refine aj ?_|refine aD (BM _ _) ?_|refine aE (BM _ _) ?_|simp[-cG,-cr]);rw[pK Ω];(refine cO.at (cB ((eL z vars (eL z vars c.next).2).2)) (.inl rfl) (gR _) (jw _ _) co co ?_;simp[-cG,-cr,cT,Hz,aW,aY,aV,cB])
  all_goals first
   |(rw[aeM Ω ⟨Ω,by assumption⟩];(refine cW.ob (x4 c.next aq.next vars) (gR _) co co (by simp[-cG,-cr,inObs,cB,Pv.look]) ?_;rintro r ah ⟨rfl,rfl⟩;refine⟨jw _ _,?_⟩;unfold cB;simp[-cG,-cr,cb]);(with_reducible repeat' first|refine aj ?_|refine aD (Yh _) ?_|refine aE (Yh _) ?_|simp[-cG,-cr]);(refine cO.at (cB (c.next.belowC vars)) (.inl rfl) (gR _) (jw _ _) co co ?_;simp[-cG,-cr,cT,Hz,aW,aY,aV,cB]);done)
   |(rw[aeJ Ω (by rintro⟨J,U⟩;first|omega|contradiction|(simp_all;done))];(refine cW.ob (adI c.next aq.next) (gR _) co co (by simp[-cG,-cr,inObs,cB,Pv.look]) ?_;rintro r ah ⟨rfl,rfl⟩;refine⟨jw _ _,?_⟩;unfold cB;simp[-cG,-cr,cb]);(with_reducible repeat' first|refine aj ?_|simp[-cG,-cr]);(refine cO.at (cB (c.next.next)) (.inl rfl) (gR _) (jw _ _) co co ?_;simp[-cG,-cr,cT,Hz,aW,aY,aV,cB]);done)
def By:List Int->Int->Int
 |[],h=>h
 |x::r,h=>By r (xO .i64 (h*131+x+7) 1073741823)
def wY(d:List Int):dQ:=⟨d,0,By (d.take 4000) (90411+d.length)⟩
def agv(d:List Int)(k:Nat)(st:bm):Prop:=∃(i:Nat) (h:Int),i<=d.length/\i<=4000/\k=d.length-i/\0<=h/\h<=2000000000/\By ((d.take 4000).drop i) h=By (d.take 4000) (90411+d.length)/\st=⟨[(0,.slice 1 .no (iQ d)),(3,.int .i64 h),(4,.int .i64 i)],[],[],0,[]⟩
theorem adG(d:List Int)(aN:uH d)(av:d.length<=10000000):bH az 52 [.slice 1 .no (iQ d)] ⟨[],[]⟩ fun r ah=>r= .ptr (.obj 401) 0/\ah=cB (wY d):=by
 have ag:dR ⟨[],[]⟩:=(dR.of ⟨by intro m;simp[-cG,-cr,Pv.look],by intro m;simp[-cG,-cr,Pv.look]⟩ (by simp[-cG,-cr,aP,aG,inObs,Pv.look]) (by simp[-cG,-cr,aP,aG,inObs,Pv.look]));refine bH.mk mixed rr acA aje (by simp[-cG,-cr]) ag.obj fun aT cI=>?_;unfold QH;simp[-cG,-cr];(with_reducible repeat' first|refine aj ?_|simp[-cG,-cr]);refine n5 (agv d) d.length _ ⟨by simp[-cG,-cr],by simp[-cG,-cr,gz],by simp[-cG,-cr,nS],by simp[-cG,-cr]⟩ ⟨0,90411+d.length,Ω,Ω,Ω,Ω,Ω,by simp[-cG,-cr],rfl⟩ ?_;rintro k st ⟨i,g,hi,apj,ad,bE,J,iX,rfl⟩ jT cI;clear jT cI;have tx:¬(i<d.length/\i<4000)->g=By (d.take 4000) (90411+d.length):=by intro ay;rw[List.drop_of_length_le (by simp[-cG,-cr];omega)]at iX;exact iX
 have j8:¬(i<d.length/\i<4000)->wY d=⟨d,0,g⟩:=fun ay=>by simp[-cG,-cr,wY,tx ay]
 simp[-cG,-cr];(with_reducible repeat' first|((first|apply bJ|apply bM|apply bL)<;>intro h<;>try simp[-cG,-cr]at h)|refine aj ?_|simp[-cG,-cr])
 ·have bs:i<d.length:=Ω
  obtain⟨x,ae⟩:∃x,d[i]? =some x:=⟨_,cf bs⟩;have kH:∀h,(iQ d)[i]'h= .int .u8 x:=fun h=>by have:=I7 ae;rw[cf h]at this;simpa using this
  have u7:=aN x (ed ae);have hw:nk.wrap x=x:=mB _ Ω;have mf:=IW (g*131+x+7) 1073741823 Ω Ω;simp[-cG,-cr,I7 ae,hw];(with_reducible repeat' first|refine aj ?_|simp[-cG,-cr]);refine bQ.next (d.length-(i+1)) Ω ⟨i+1,_,Ω,Ω,rfl,mf.1,Ω,?_,rfl⟩ ⟨by simp[-cG,-cr],by simp[-cG,-cr,gz],by simp[-cG,-cr,nS],by simp[-cG,-cr]⟩;rw[<-iX,kX (l:=d.take 4000) (i:=i) (by simp[-cG,-cr];omega)];have:(d.take 4000)[i]'(by simp[-cG,-cr];omega)=x:=by have:=ae;rw[cf bs]at this;simpa using this
  rw[this,By]
 all_goals rw[j8 Ω]
 all_goals refine cO.new (cB ⟨d,0,g⟩) (.inl rfl) (gR _) (by simp[-cG,-cr,kQ]) co co ?_
 all_goals simp[-cG,-cr,cT,WL,aW,aY,aV,cB,inObs,Pv.look]
def sM:Nat->dQ->dQ
 |0,c=>c
 |n+1,c=>(sM n c).next
theorem Ny{c:dQ}(h:c.ok):∀n,(sM n c).ok
 |0=>h
 |n+1=>(Ny h n).next
theorem Vt{d:List Int}(aN:uH d)(av:d.length<=10000000):(wY d).ok:=⟨aN,av,by simp[-cG,-cr,wY]⟩
def p6(d:List Int)(n:Nat):dQ:=sM n (wY d)
theorem ZV{d:List Int}(aN:uH d)(av:d.length<=10000000)(n:Nat):(p6 d n).ok:=Ny (Vt aN av) n
theorem q8(S:aL->Prop)(c:dQ):aP S c.e:=by simp[-cG,-cr,dQ.e,aP,aG]
def agq(c:dQ)(n:Nat)(k:Nat)(st:bm):Prop:=∃i:Nat,i<=n/\k=n-i/\st=⟨[(1,.int .i64 n),(5,.ptr (.obj 401) 0),(6,.int .i64 i)],[(.obj 401,(sM i c).e)],[],0,[.obj 401]⟩
theorem adK(d:List Int)(aN:uH d)(av:d.length<=10000000)(n:Nat)(ay:n<=1000000):bH az 21 [.slice 1 .no (iQ d),.int .i64 n] ⟨[],[]⟩ fun r ah=>r= .ptr (.obj 401) 0/\ah=cB (p6 d n):=by
 unfold p6;have ag:dR ⟨[],[]⟩:=(dR.of ⟨by intro m;simp[-cG,-cr,Pv.look],by intro m;simp[-cG,-cr,Pv.look]⟩ (by simp[-cG,-cr,aP,aG,inObs,Pv.look]) (by simp[-cG,-cr,aP,aG,inObs,Pv.look]));refine bH.mk mixed rr ac5 ajJ (by simp[-cG,-cr]) ag.obj fun aT cI=>?_;unfold Rc;simp[-cG,-cr];refine cW.new (adG d aN av) ag aK aK (by simp[-cG,-cr]) ?_;rintro r ah ⟨rfl,rfl⟩;refine⟨fun m _=>.inr (by simp[-cG,-cr]),?_⟩;unfold cB;simp[-cG,-cr,cb];refine n5 (agq (wY d) n) n _ ⟨by simp[-cG,-cr,fresh,aP,aG,cn,inObs,Pv.look,q8,sM],en (by simp[-cG,-cr,fresh,aP,aG,cn,inObs,Pv.look,q8,sM]),eo (by simp[-cG,-cr,fresh,aP,aG,dV,inObs,Pv.look,q8,sM]),by simp[-cG,-cr]⟩ ⟨0,Ω,rfl,rfl⟩ ?_;rintro k st ⟨i,hi,ad,rfl⟩ jT cI;clear jT cI;simp[-cG,-cr];(with_reducible repeat' first|((first|apply bJ|apply bM|apply bL)<;>intro h<;>try simp[-cG,-cr]at h)|refine aj ?_|simp[-cG,-cr])
 ·(refine cW.ob (St _ (Ny (Vt aN av) i)) (gR _) co co (by simp[-cG,-cr,inObs,cB,Pv.look]) ?_;rintro r ah ⟨rfl,rfl⟩;refine⟨jw _ _,?_⟩;unfold cB;simp[-cG,-cr,cb]);(with_reducible repeat' first|((first|apply bJ|apply bM|apply bL)<;>intro h<;>try simp[-cG,-cr]at h)|refine aj ?_|simp[-cG,-cr]);refine bQ.next (n-(i+1)) Ω ⟨i+1,Ω,rfl,rfl⟩ ⟨by simp[-cG,-cr,fresh,aP,aG,cn,inObs,Pv.look,q8,sM],en (by simp[-cG,-cr,fresh,aP,aG,cn,inObs,Pv.look,q8,sM]),eo (by simp[-cG,-cr,fresh,aP,aG,dV,inObs,Pv.look,q8,sM]),by simp[-cG,-cr]⟩
 ·obtain rfl:i=n:=Ω
  refine cO.new (cB (sM i (wY d))) (.inl rfl) (gR _) (by simp[-cG,-cr,kQ]) co co ?_;simp[-cG,-cr,cT,WZ,aW,aY,aV,cB,inObs,Pv.look]
/-What is drawn. -/
theorem ZA(k:Int)(bE:0<=k)(J:k<7):(rK k).ok=true/\(∀v,(rK k).occ v=false)/\(rK k).size=1:=by obtain⟨n,rfl⟩:∃n:Nat,k=n:=⟨k.toNat,Ω⟩;rcases(by omega:n=0\/n=1\/n=2\/n=3\/n=4\/n=5\/n=6)with rfl|rfl|rfl|rfl|rfl|rfl|rfl<;>refine⟨?_,fun v=>?_,?_⟩<;>first|rfl|decide
theorem ZY(vars:Int)(aC:vars<=100001)(n:Nat):∀c:dQ,(eL n vars c).1.ok=true/\(∀v,(eL n vars c).1.occ v=true->0<=v/\v<vars)/\(eL n vars c).1.size<=2*n-1+(if n=0 then 1 else 0):=by
 induction n using rF with
 |ind n bU=>
  intro c;have dX:=c.next.below_le 7 Ω;rw[eL];split
  ·rename_i h;obtain⟨bB,a2,a3⟩:=bU (n/2) Ω c.next;obtain⟨ck,ca,gf⟩:=bU (n/2) Ω (eL (n/2) vars c.next).2;refine⟨by simp[T.ok,bB,ck],fun v aC=>?_,?_⟩
   ·simp only[T.occ,l4]at aC;rcases aC with aC|aC
    ·exact a2 v aC
    ·exact ca v aC
   ·simp only[T.size];split at a3<;>split at gf<;>split<;>omega
  ·split
   ·rename_i h;have:=c.next.below_le vars h.1;refine⟨by simp[T.ok];omega,fun v aC=>?_,by simp only[T.size];split<;>omega⟩;simp[T.occ]at aC;omega
   ·obtain⟨bB,a2,a3⟩:=ZA _ dX.1 dX.2;refine⟨bB,fun v aC=>?_,?_⟩
    ·simp only[a2 v]at aC;cases aC
    ·simp only[a3];split<;>omega
def mx(p:Nat->Bool)(i j:Nat):Nat:=if i<j then(if p ((i+j)/2)then mx p i ((i+j)/2)else mx p ((i+j)/2+1) j)else i
termination_by j-i
def agx(s:cS)(n g:Nat)(dn:List ai)(p:Nat->Bool)(k:Nat)(st:bm):Prop:=∃i j:Nat,i<=j/\j<=n/\k=j-i/\mx p i j=mx p 0 n/\st=⟨[(1,.func g dn),(5,.int .i64 i),(6,.int .i64 j)],s.b,s.e,0,c2 s⟩
theorem adw(s:cS)(ag:dR s)(n g:Nat)(ay:n<=1000000)(dn:List ai)(aq:aP (inObs s) dn)(da:dv dn=dn)(p:Nat->Bool)(aR:∀i:Nat,i<n->bH az g (.int .i64 i::dn) s fun r ah=>r= .bool (p i)/\ah=s):
  bH az 57 [.int .i64 n,.func g dn] s fun r ah=>r= .int .i64 (mx p 0 n)/\ah=s:=by
 refine bH.mk mixed fJ ab3 aiK Ψ ag.obj fun aT cI=>?_;unfold Qd;simp;refine n5 (agx s n g dn p) n _ (iO.ob ag (by simp[aq]) aK aK) ⟨0,n,Ω,Ω,rfl,rfl,rfl⟩ ?_;rintro k st ⟨i,j,lM,af,ad,K5,rfl⟩ jT cI;clear jT cI;simp;refine bJ (fun bs=>?_) (fun wo=>?_)
 ·simp at bs;have hw:hv.wrap ((i:Int)+j)=i+j:=by simp[sY,nW,rD];omega
  obtain⟨m,hm⟩:∃m,m=(i+j)/2:=⟨_,rfl⟩;have aN:Int.fdiv ((i:Int)+j) 2=(m:Int):=by rw[Int.fdiv_eq_ediv_of_nonneg _ Ω];omega
  have mS:nk.wrap (m:Int)=m:=by rw[mB];omega
  have Kt:hv.bits=64:=rfl;simp[hw,da,Kt,aN,mS];refine⟨by unfold oZ;omega,?_⟩;refine cW.ob (aR m Ω) ag aK aK (by simp[aq]) ?_;rintro r ah ⟨rfl,rfl⟩;refine⟨Same.refl _,?_⟩;simp[hh];(with_reducible repeat' first|((first|apply bJ|apply bM|apply bL)<;>intro h<;>try simp at h)|refine aj ?_|simp)
  ·simp only[EO];refine⟨j-(m+1),_,Ω,iO.ob ag (by simp[aq]) aK aK,m+1,j,Ω,Ω,rfl,?_,rfl⟩;rw[<-K5];conv=>rhs;unfold mx
   simp[bs,<-hm,h]
  ·simp only[EO];refine⟨m-i,_,Ω,iO.ob ag (by simp[aq]) aK aK,i,m,Ω,Ω,rfl,?_,rfl⟩;rw[<-K5];conv=>rhs;unfold mx
   simp[bs,<-hm,h]
 ·simp at wo;have:mx p 0 n=i:=by rw[<-K5];unfold mx;rw[if_neg Ω]
  rw[this];simp;refine cO.at s (.inl rfl) ag (Same.refl s) aK aK ?_;simp[cT,WA,aW,aY,aV]
def j4(l:List ak)(v:Int):Int:=
 let i:=mx (fun i=>match l[i]? with|some b=>decide (v<=b.v)|none=>false) 0 l.length
 match l[i]? with|some b=>if b.v=v then i else-1|none=> -1
theorem adC(l:List ak)(v:Int)(i:Nat)(b:ak)(ab:l[i]? =some b):bH az 58 [.int .i64 i,.ptr (.obj 101) 0,.ptr (.obj 102) 0] ⟨[(.obj 101,[.slice 5 .no (l.map ak.e)]),(.obj 102,[.int .i64 v])],[]⟩ fun r ah=>r= .bool (decide (v<=b.v))/\ah=⟨[(.obj 101,[.slice 5 .no (l.map ak.e)]),(.obj 102,[.int .i64 v])],[]⟩:=by have ag:dR ⟨[(.obj 101,[.slice 5 .no (l.map ak.e)]),(.obj 102,[.int .i64 v])],[]⟩:=(dR.of ⟨by intro m;simp[Pv.look],by intro m;simp[Pv.look]⟩ d9 d9);have bs:i<l.length:=(fb.1 ab).1;refine bH.mk mixed fJ abF aim Ψ ag.obj fun aT cI=>?_;unfold PO;simp[ab];(with_reducible repeat' first|refine aj ?_|simp);refine cO.at _ (.inl rfl) ag (Same.refl _) aK aK ?_;simp[cT,Wq,aW,aY,aV]
theorem sT(l:List ak)(v:Int)(av:l.length<=1000000):bZ az 24 [.slice 5 .no (l.map ak.e),.int .i64 v] (.int .i64 (j4 l v)):=by
 refine bz fJ abE ail fun aT=>?_;unfold PN;simp;have ag:dR ⟨[(.obj 101,[.slice 5 .no (l.map ak.e)]),(.obj 102,[.int .i64 v])],[]⟩:=(dR.of ⟨by intro m;simp[Pv.look],by intro m;simp[Pv.look]⟩ d9 d9);refine cW.ob (adw ⟨[(.obj 101,[.slice 5 .no (l.map ak.e)]),(.obj 102,[.int .i64 v])],[]⟩ ag l.length 58 av [.ptr (.obj 101) 0,.ptr (.obj 102) 0] (by simp[inObs]) Ψ (fun i=>match l[i]? with|some b=>decide (v<=b.v)|none=>false) fun i hi=>?_) ag aK aK (by simp[inObs]) ?_
 ·obtain⟨b,ab⟩:∃b,l[i]? =some b:=⟨_,cf hi⟩;simp only[ab];exact adC l v i b ab
 rintro r ah ⟨rfl,rfl⟩;refine⟨Same.refl _,?_⟩;unfold j4;generalize mx _ 0 l.length=i;cases ab:l[i]? with
 |none=>
  have bs:¬i<l.length:=by simpa using ab
  simp[cb,bs];exact cD
 |some b=>
  have bs:i<l.length:=(fb.1 ab).1;simp[cb,ab,bs];((with_reducible repeat' first|refine aj ?_|simp[ab]|((first|apply bJ|apply bM|apply bL)<;>intro h<;>try simp at h))<;>(try exact cc));all_goals simp[bu,Wp,aW,aY,aV]
  all_goals simp_all
def rf(l:List ak)(v:Int):Option T:=if j4 l v<0 then none else(l[(j4 l v).toNat]?).map (·.t)
theorem J5(l:List ak)(v:Int):j4 l v<l.length/\ -1<=j4 l v:=by
 unfold j4;simp only;split
 ·rename_i b ab;have:=(fb.1 ab).1;split<;>omega
 ·omega
theorem Sv(l:List ak)(v:Int)(av:l.length<=1000000)(o:Option T)(ax:o=rf l v):bH az 61 [.int .i64 v,.ptr (.obj 201) 0] ⟨[(.obj 201,[.slice 5 .no (l.map ak.e)])],[]⟩ fun r ah=>r= .tuple [(o.getD .nil).e,.bool o.isSome]/\ah=⟨[(.obj 201,[.slice 5 .no (l.map ak.e)])],[]⟩:=by
 have ag:dR ⟨[(.obj 201,[.slice 5 .no (l.map ak.e)])],[]⟩:=(dR.of ⟨by intro m;simp[Pv.look],by intro m;simp[Pv.look]⟩ d9 d9);have bs:=(J5 l v).1;unfold rf at ax;refine bH.mk mixed fJ abQ aix Ψ ag.obj fun aT cI=>?_;unfold P0;simp;(with_reducible repeat' first|((first|apply bJ|apply bM|apply bL)<;>intro h<;>try simp at h)|refine aj ?_|refine aD (sT l v av) ?_|refine aE (sT l v av) ?_|simp)
 ·obtain⟨b,ab⟩:∃b,l[(j4 l v).toNat]? =some b:=⟨_,cf Ω⟩;have h1:o=some b.t:=by rw[ax,if_neg Ω,ab];rfl
  simp[ab];(with_reducible repeat' first|((first|apply bJ|apply bM|apply bL)<;>intro h<;>try simp at h)|refine aj ?_|simp[ab]);refine cO.at _ (.inl rfl) ag (Same.refl _) aK aK ?_;simp[cT,MH,aW,aY,aV];simp[h1]
 ·have h1:o=none:=by rw[ax,if_pos h]
  refine cO.at _ (.inl rfl) ag (Same.refl _) aK aK ?_;simp[cT,MH,aW,aY,aV];simp[h1]
theorem adY(s:cS)(ag:dR s)(g:Nat)(dn:List ai)(aq:aP (inObs s) dn)(da:dv dn=dn)(f:Int->Int)(CO:∀v,-1<=f v)(t:T)(aR:∀v,t.occ v=true->bH az g (.int .i64 v::dn) s fun r ah=>r= .int .i64 (f v)/\ah=s):
  bH az 112 [t.e,.func g dn] s fun r ah=>r= .int .i64 (lx f t)/\ah=s:=by
 have ay:∀m,Pv.look (.loc m) s.b=none:=ag.obj.1;have hu:∀m cs,cA (.loc m) cs s.b=s.b++[(.loc m,cs)]:=fun m cs=>kk (ay m);have ax:∀m,aL.loc m∉c2 s:=kf ag.obj;induction t with
 |pair a b dM dN=>
  have apC:=H6 f CO a;have apF:=H6 f CO b;refine bH.mk mixed fJ xX yT Ψ ag.obj fun aT cI=>?_;unfold vV;simp[hu,ax,cV,ay,da];(with_reducible repeat' first|refine aj ?_|simp[hu,ax,cV,ay]);refine cW.ob (dM fun v aC=>aR v (by simp[T.occ,aC])) ag aK aK (by simp[aq]) ?_;rintro r ah ⟨rfl,rfl⟩;refine⟨Same.refl _,?_⟩;simp[hh,iH,cb,ay];(with_reducible repeat' first|((first|apply bJ|apply bM|apply bL)<;>intro h<;>try simp at h)|refine aj ?_|simp[hu,ax,cV,ay])
  ·refine cO.at ah (.inl rfl) ag (Same.refl _) aK aK ?_;simp[cT,vw,aW,aY,aV];simp[lx];omega
  ·rw[da];refine cW.ob (dN fun v aC=>aR v (by simp[T.occ,aC])) ag aK aK (by simp[aq]) ?_;rintro r s2 ⟨rfl,rfl⟩;refine⟨Same.refl _,?_⟩;simp[hh,iH,cb,ay];(with_reducible repeat' first|((first|apply bJ|apply bM|apply bL)<;>intro h<;>try simp at h)|refine aj ?_|simp[hu,ax,cV,ay]);refine cO.at s2 (.inl rfl) ag (Same.refl _) aK aK ?_;simp[cT,vw,aW,aY,aV];simp[lx];omega
 |var n=>refine bH.mk mixed fJ xX yT Ψ ag.obj fun aT cI=>?_;unfold vV;simp[hu,ax,cV,ay,da];(with_reducible repeat' first|refine aj ?_|simp[hu,ax,cV,ay]);refine cW.ob (aR n (by simp[T.occ])) ag aK aK (by simp[aq]) ?_;rintro r ah ⟨rfl,rfl⟩;refine⟨Same.refl _,?_⟩;simp[hh,iH,cb,ay];refine cO.at ah (.inl rfl) ag (Same.refl _) aK aK ?_;simp[cT,vw,aW,aY,aV];simp[lx]
 |_=>refine bH.mk mixed fJ xX yT Ψ ag.obj fun aT cI=>?_;unfold vV;simp[hu,ax,cV,ay,da];(with_reducible repeat' first|refine aj ?_|simp[hu,ax,cV,ay]);refine cO.at s (.inl rfl) ag (Same.refl _) aK aK ?_;simp[cT,vw,aW,aY,aV];simp[lx]
theorem adL(s:cS)(ag:dR s)(g:Nat)(dn:List ai)(aq:aP (inObs s) dn)(da:dv dn=dn)(f:Int->Option T)(t:T)(aR:∀v,t.occ v=true->bH az g (.int .i64 v::dn) s fun r ah=>r= .tuple [((f v).getD .nil).e,.bool (f v).isSome]/\ah=s):
  bH az 115 [t.e,.func g dn] s fun r ah=>r=(t.sub f).e/\ah=s:=by
 have ay:∀m,Pv.look (.loc m) s.b=none:=ag.obj.1;have cK:∀m,Pv.look (.loc m) s.e=none:=ag.obj.2;have hu:∀m cs,cA (.loc m) cs s.b=s.b++[(.loc m,cs)]:=fun m cs=>kk (ay m);have ax:∀m,aL.loc m∉c2 s:=kf ag.obj;have lS:∀m p r,cA (.loc m) p (s.b++r)=s.b++cA (.loc m) p r:=fun m p r=>BJ (ay m);induction t with
 |pair a b dM dN=>refine bH.mk mixed fJ zR A9 Ψ ag.obj fun aT cI=>?_;unfold xS;simp[hu,ax,cV,ay,cK,da,lS];(with_reducible repeat' first|refine aj ?_|simp[hu,ax,cV,ay,cK,lS]);refine gW.ob (dM fun v aC=>aR v (by simp[T.occ,aC])) ag ag (Same.refl _) aK aK (by simp[aq]) ?_;simp[hh,iH,cb,ay,da];refine gW.ob (dN fun v aC=>aR v (by simp[T.occ,aC])) ag ag (Same.refl _) aK aK (by simp[aq]) ?_;simp[hh,iH,cb,ay,da];(with_reducible repeat' first|refine aj ?_|refine aD (Ir _ _) ?_|refine aE (Ir _ _) ?_|simp);refine cO.at s (.inl rfl) ag (Same.refl _) aK aK ?_;simp[cT,y0,aW,aY,aV,cV,ay];simp[T.sub]
 |var n=>
  refine bH.mk mixed fJ zR A9 Ψ ag.obj fun aT cI=>?_;unfold xS;simp[hu,ax,cV,ay,da,lS];(with_reducible repeat' first|refine aj ?_|simp[hu,ax,cV,ay,lS]);refine cW.ob (aR n (by simp[T.occ])) ag aK aK (by simp[aq]) ?_;rintro r ah ⟨rfl,rfl⟩;refine⟨Same.refl _,?_⟩;simp[hh,iH,cb,ay,hu,ax,cV];(with_reducible repeat' first|((first|apply bJ|apply bM|apply bL)<;>intro h<;>try simp at h)|refine aj ?_|refine aD (uj _) ?_|refine aE (uj _) ?_|simp[hu,ax,cV,ay,lS]);all_goals refine cO.at ah (.inl rfl) ag (Same.refl _) aK aK ?_
  all_goals simp[cT,y0,aW,aY,aV,cV,ay]
  all_goals cases pL:f n<;>simp_all[T.sub]
 |_=>refine bH.mk mixed fJ zR A9 Ψ ag.obj fun aT cI=>?_;unfold xS;simp[hu,ax,cV,ay,da,lS];(with_reducible repeat' first|((first|apply bJ|apply bM|apply bL)<;>intro h<;>try simp at h)|refine aj ?_|simp[hu,ax,cV,ay,lS]);refine cO.at s (.inl rfl) ag (Same.refl _) aK aK ?_;simp[cT,y0,aW,aY,aV,cV,ay];simp[T.sub]
def oJ(l:List ak):cS:=⟨[(.obj 201,[.slice 5 .no (l.map ak.e)])],[]⟩
def rH(l:List ak):cS:=⟨[(.obj 201,[.slice 5 .no (l.map ak.e)]),(.obj 202,[.func 61 [.ptr (.obj 201) 0]])],[]⟩
theorem BX(l:List ak):dR (oJ l):=by unfold oJ;exact(dR.of ⟨by intro m;simp[Pv.look],by intro m;simp[Pv.look]⟩ d9 d9)
theorem IA(l:List ak):dR (rH l):=by unfold rH;exact(dR.of ⟨by intro m;simp[Pv.look],by intro m;simp[Pv.look]⟩ d9 d9)
def uP(l:List ak)(v:Int):Int:=match rf l v with|some x=>fs x.tm 5000|none=>1
theorem adp(l:List ak)(v:Int): -1<=uP l v:=by
 unfold uP;split
 ·rename_i x _;rcases DH x.tm 5000 with h|h<;>omega
 ·omega
theorem Yr(t:T):bZ az 114 [t.e,.int .i64 5000] (.int .i64 (fs t.tm 5000)):=by have:=Yq t.tm.sz t.tm (eX _) 5000 Ω;rwa[rN]at this
theorem adV(l:List ak)(v:Int)(av:l.length<=1000000):bH az 113 [.int .i64 v,.ptr (.obj 202) 0] (rH l) fun r ah=>r= .int .i64 (uP l v)/\ah=rH l:=by
 have ag:=IA l;unfold rH at ag⊢;refine bH.mk mixed fJ abS aiz Ψ ag.obj fun aT cI=>?_;unfold P2;simp;refine cW.ob (Sv l v av _ rfl) (BX l) aK aK (by simp[inObs]) ?_;rintro r ah ⟨rfl,rfl⟩;refine⟨Same.refl _,?_⟩;simp[cb];(with_reducible repeat' first|((first|apply bJ|apply bM|apply bL)<;>intro h<;>try simp at h)|refine aj ?_|refine aD (Yr _) ?_|refine aE (Yr _) ?_|simp);all_goals refine cO.at _ (.inl rfl) ag (Same.refl _) aK aK ?_
 all_goals simp[cT,Wx,aW,aY,aV]
 all_goals unfold uP
 all_goals cases bK:rf l v<;>simp_all
def D0(l:List ak)(t:T):T:=t.sub (rf l)
def tZ(l:List ak)(t:T):Bool:=decide (lx (uP l) t<=5000)
theorem adU(l:List ak)(t:T)(av:l.length<=1000000):bH az 60 [t.e,.func 61 [.ptr (.obj 201) 0]] (oJ l) fun r ah=>r= .tuple [(if tZ l t then D0 l t else .nil).e,.bool (tZ l t)]/\ah=oJ l:=by
 have ag:=BX l;unfold oJ at ag⊢;refine bH.mk mixed fJ abR aiy Ψ ag.obj fun aT cI=>?_;unfold P1;simp;refine cW.ob (adY (rH l) (IA l) 113 [.ptr (.obj 202) 0] (by simp[inObs,rH]) Ψ (uP l) (adp l) t fun v aC=>adV l v av) (IA l) (by unfold rH;exact aK) (by unfold rH;exact aK) (by simp[inObs,rH]) ?_;rintro r ah ⟨rfl,rfl⟩;refine⟨Same.refl _,?_⟩;unfold rH;simp[cb];(with_reducible repeat' first|((first|apply bJ|apply bM|apply bL)<;>intro h<;>try simp at h)|refine aj ?_|simp)
 ·refine cO.at _ (.inl rfl) ag (Same.refl _) aK aK ?_;simp[cT,MI,aW,aY,aV];have:tZ l t=false:=by simp[tZ];omega
  simp[this]
 ·refine cW.ob (adL (oJ l) (BX l) 61 [.ptr (.obj 201) 0] (by simp[inObs,oJ]) Ψ (rf l) t fun v aC=>Sv l v av _ rfl) (BX l) (by unfold oJ;exact aK) (by unfold oJ;exact aK) (by simp[inObs,oJ]) ?_;rintro r ah ⟨rfl,rfl⟩;refine⟨Same.refl _,?_⟩;unfold oJ;simp[cb];refine cO.at _ (.inl rfl) ag (Same.refl _) aK aK ?_;simp[cT,MI,aW,aY,aV];have:tZ l t=true:=by simp[tZ];omega
  simp[this,D0]
theorem am7(l:List ak)(t:T)(av:l.length<=1000000):bZ az 29 [.slice 5 .no (l.map ak.e),t.e] (.tuple [(if tZ l t then D0 l t else .nil).e,.bool (tZ l t)]):=by refine bz fJ abP aiw fun aT=>?_;unfold PZ;simp;refine cW.ob (adU l t av) (BX l) (by unfold oJ;exact aK) (by unfold oJ;exact aK) (by simp[inObs,oJ]) ?_;rintro r ah ⟨rfl,rfl⟩;refine⟨Same.refl _,?_⟩;unfold oJ;simp[cb];simp[bu,Ww,aW,aY,aV]
end
end Go.Proofs.YtohaalphocaebaaGreatDoor
namespace Go.Pv
section
open Go
def T.ap(aQ:Int->T):T->T
 | .var n=>aQ n
 | .pair a b=>.pair (a.ap aQ) (b.ap aQ)
 |t=>t
theorem B5(f g:Int->T)(t:T):(t.ap f).ap g=t.ap fun v=>(f v).ap g:=by
 induction t with
 |pair a b dM dN=>simp[T.ap,dM,dN]
 |_=>simp[T.ap]
theorem p4{f g:Int->T}{t:T}(h:∀v,t.occ v=true->f v=g v):t.ap f=t.ap g:=by
 induction t with
 |var n=>exact h n (by simp[T.occ])
 |pair a b dM dN=>simp only[T.ap];rw[dM fun v aC=>h v (by simp[T.occ,aC]),dN fun v aC=>h v (by simp[T.occ,aC])]
 |_=>rfl
theorem OT(t:T):t.ap .var=t:=by induction t<;>simp_all[T.ap]
theorem OS{f:Int->T}{t:T}(h:∀v,t.occ v=true->f v= .var v):t.ap f=t:=(p4 h).trans (OT t)
theorem XC(f:Int->Option T)(t:T):t.sub f=t.ap fun v=>(f v).getD (.var v):=by
 induction t with
 |var n=>simp only[T.sub,T.ap];cases f n<;>rfl
 |pair a b dM dN=>simp[T.sub,T.ap,dM,dN]
 |_=>rfl
theorem Zp(aQ:Int->T)(t:T):t.size<=(t.ap aQ).size:=by
 induction t with
 |var n=>exact T.size_pos _
 |pair a b dM dN=>simp only[T.ap,T.size];omega
 |_=>exact eX _
theorem A6(aQ:Int->T){v:Int}{t:T}(h:t.occ v=true):(aQ v).size<=(t.ap aQ).size/\(t.kind≠1->(aQ v).size<(t.ap aQ).size):=by
 induction t with
 |var n=>simp[T.occ]at h;subst h;simp[T.ap,T.kind]
 |pair a b dM dN=>
  simp only[T.occ,l4]at h;simp only[T.ap,T.size];rcases h with h|h
  ·have:=(dM h).1;exact⟨Ω,fun _=>Ω⟩
  ·have:=(dN h).1;exact⟨Ω,fun _=>Ω⟩
 |_=>simp[T.occ]at h
theorem A5{aQ:Int->T}{v:Int}{t:T}:(t.ap aQ).occ v=true↔∃w,t.occ w=true/\(aQ w).occ v=true:=by
 induction t with
 |var n=>simp[T.ap,T.occ]
 |pair a b dM dN=>
  simp only[T.ap,T.occ,l4,dM,dN];constructor
  ·rintro(⟨w,J,U⟩|⟨w,J,U⟩)
   ·exact⟨w,.inl J,U⟩
   ·exact⟨w,.inr J,U⟩
  ·rintro⟨w,J|J,U⟩
   ·exact .inl ⟨w,J,U⟩
   ·exact .inr ⟨w,J,U⟩
 |_=>simp[T.ap,T.occ]
def bh(s:List ak)(v:Int):T:=(cU s v).getD (.var v)
abbrev gQ(s:List ak):Prop:=s.Pairwise fun x y=>x.v<y.v
def gv(s:List ak)(aQ:Int->T):Prop:= ∀b∈s,aQ b.v=b.t.ap aQ
structure ft (s:List ak):Prop where
 asc:gQ s
 free:∀b∈s,∀w,b.t.occ w=true->cU s w=none
 ori:∀b∈s,∀w,b.t= .var w->w<b.v
theorem uE(b:ak)(s:List ak)(v:Int):cU (b::s) v=if b.v=v then some b.t else cU s v:=by
 unfold cU;by_cases h:b.v=v
 ·simp[h]
 ·have:(b.v==v)=false:=by simp[h]
  simp[this,h,List.find?_cons]
theorem iP{v:Int}{t:T}:∀{s:List ak},cU s v=some t->(⟨v,t⟩:ak)∈s
 |[],h=>by simp[cU]at h
 |b::s,h=>by
  rw[uE]at h;split at h
  ·rename_i e;cases h;subst e;simp
  ·exact oE _ (iP h)
theorem vR{v:Int}:∀{s:List ak},cU s v=none↔∀b∈s,b.v≠v
 |[]=>by simp[cU]
 |b::s=>by
  rw[uE];by_cases h:b.v=v
  ·simp[h]
  ·simp[h,vR (s:=s)]
theorem p5{b:ak}:∀{s:List ak},gQ s->b∈s->cU s b.v=some b.t
 |[],_,h=>by simp at h
 |c::s,bk,h=>by
  rw[uE];have nz:=mC.1 bk;rcases fD.1 h with rfl|h
  ·simp
  ·have:=nz.1 b h;rw[if_neg Ω];exact p5 nz.2 h
theorem OV:∀{s ah:List ak},gQ s->gQ ah->(∀v,cU s v=cU ah v)->s=ah
 |[],[],_,_,_=>rfl
 |[],c::ah,_,_,h=>by have:=h c.v;rw[uE]at this;simp[cU]at this
 |c::s,[],_,_,h=>by have:=h c.v;rw[uE]at this;simp[cU]at this
 |b::s,c::ah,bk,ab,h=>by
  have fZ:=mC.1 ab;have nz:=mC.1 bk;have J:(⟨b.v,b.t⟩:ak)∈c::ah:=iP (by rw[<-h b.v,uE];simp);have U:(⟨c.v,c.t⟩:ak)∈b::s:=iP (by rw[h c.v,uE];simp);have SX:b=c:=by
   rcases fD.1 J with e|e
   ·exact e
   ·rcases fD.1 U with aF|aF
    ·exact aF.symm
    ·have a6:=fZ.1 _ e;have bD:=nz.1 _ aF;simp only at a6 bD;omega
  subst SX;rw[OV nz.2 fZ.2 fun v=>?_];have:=h v;rw[uE,uE]at this;by_cases e:b.v=v
  ·have la:cU s v=none:=vR.2 fun x ae=>by have:=nz.1 x ae;omega
   have z2:cU ah v=none:=vR.2 fun x ae=>by have:=fZ.1 x ae;omega
   rw[la,z2]
  ·simpa[e]using this
theorem alJ{s:List ak}(bk:gQ s){aQ:Int->T}:gv s aQ↔∀v,aQ v=(bh s v).ap aQ:=by
 constructor
 ·intro h v;unfold bh;cases e:cU s v with
  |none=>rfl
  |some t=>exact h _ (iP e)
 ·intro h b ab;have:=h b.v;rw[bh,p5 bk ab]at this;exact this
theorem NA{s:List ak}{aQ:Int->T}(h:gv s aQ)(t:T):t.ap aQ=(t.ap (bh s)).ap aQ:=by
 rw[B5];refine p4 fun v _=>?_;unfold bh;cases e:cU s v with
 |none=>rfl
 |some t=>exact h _ (iP e)
theorem alp{s:List ak}(ag:ft s){t:T}(h:∀w,t.occ w=true->cU s w=none):t.ap (bh s)=t:=OS fun v aC=>by simp[bh,h v aC]
theorem xg{s:List ak}(ag:ft s):gv s (bh s):=fun b ab=>by rw[alp ag (ag.free b ab),bh,p5 ag.asc ab];rfl
theorem G4{s ah:List ak}(ag:ft s)(fF:ft ah)(h:∀aQ,gv ah aQ->gv s aQ){v:Int}(aC:cU ah v=none):cU s v=none:=by
 cases e:cU s v with
 |none=>rfl
 |some t=>
  have J:=h _ (xg fF) _ (iP e);simp only[bh,aC,l7]at J;cases t with
  |var w=>
   have U:w<v:=ag.ori _ (iP e) w rfl;simp only[T.ap,bh]at J;cases bA:cU ah w with
   |none=>rw[bA]at J;simp at J;omega
   |some u=>rw[bA]at J;simp only[jL]at J;subst J;have:=fF.ori _ (iP bA) v rfl;simp only at this;omega
  |_=>simp[T.ap]at J
theorem ahB{s ah:List ak}(fF:ft ah)(h:∀aQ,gv ah aQ->gv s aQ){v:Int}:(bh s v).size<=(bh ah v).size:=by
 have J:=h _ (xg fF);unfold bh;cases e:cU s v with
 |none=>exact T.size_pos _
 |some t=>have:=J _ (iP e);show t.size<=(bh ah v).size;simp only at this;rw[this];exact Zp _ _
theorem alN{s ah:List ak}(ag:ft s)(fF:ft ah)(h:∀aQ,gv s aQ↔gv ah aQ):s=ah:=by
 refine OV ag.asc fF.asc fun v=>?_;have d1:∀w,cU s w=none↔cU ah w=none:=fun w=>⟨G4 fF ag (fun aQ=>(h aQ).1),G4 ag fF fun aQ=>(h aQ).2⟩;cases e:cU s v with
 |none=>exact((d1 v).1 e).symm
 |some t=>
  cases fo:cU ah v with
  |none=>rw[(d1 v).2 fo]at e;cases e
  |some dE=>have J:=(h _).2 (xg fF) _ (iP e);simp only[bh,fo,jL]at J;rw[J];exact eK some (OS fun w hw=>by have:=(d1 w).1 (ag.free _ (iP e) w hw);simp[bh,this]).symm
def fS(s:List ak):Prop:=s.length<=400/\∀b∈s,b.t.size<=5000
theorem Zz{s:List ak}(h:gQ s):(s.map (·.v)).Nodup:=by rw[List.nodup_iff_pairwise_ne,List.pairwise_map];exact h.imp fun h=>Ω
theorem R8{s ah:List ak}(ag:ft s)(fF:ft ah)(h:∀aQ,gv ah aQ->gv s aQ)(aR:fS ah):fS s:=by
 have aN:∀x∈s.map (·.v),x∈ah.map (·.v):=by
  intro x ae;obtain⟨b,ab,rfl⟩:=iy.1 ae;cases e:cU ah b.v with
  |none=>have:=G4 ag fF h e;rw[p5 ag.asc ab]at this;cases this
  |some t=>exact iy.2 ⟨_,iP e,rfl⟩
 have av:=Ow (Zz ag.asc) aN;simp only[List.length_map]at av;refine⟨kn av aR.1,fun b ab=>?_⟩;have J:=ahB (s:=s) fF h (v:=b.v);rw[bh,p5 ag.asc ab]at J;obtain⟨c,aq,e⟩:=iy.1 (aN b.v (iy.2 ⟨b,ab,rfl⟩));have U:=aR.2 c aq;rw[bh,<-e,p5 fF.asc aq]at J;exact kn J U
def jQ(E:List (T×T))(aQ:Int->T):Prop:= ∀e∈E,e.1.ap aQ=e.2.ap aQ
theorem Ep(aQ:Int->T):jQ [] aQ:=fun _ h=>by simp at h
theorem ri{e:T×T}{E:List (T×T)}{aQ:Int->T}:jQ (e::E) aQ↔e.1.ap aQ=e.2.ap aQ/\jQ E aQ:=by simp[jQ]
theorem Eo{E mD:List (T×T)}{aQ:Int->T}:jQ (E++mD) aQ↔jQ E aQ/\jQ mD aQ:=by simp only[jQ,ih];exact⟨fun h=>⟨fun e he=>h e (.inl he),fun e he=>h e (.inr he)⟩,fun h e he=>he.elim (h.1 e) (h.2 e)⟩
def iN(s:List ak)(E:List (T×T)):Option (List ak)->Prop
 |some ah=>(ft ah/\fS ah)/\∀aQ,gv ah aQ↔gv s aQ/\jQ E aQ
 |none=> ∀ah,ft ah->(∀aQ,gv ah aQ->gv s aQ/\jQ E aQ)->¬fS ah
theorem Zb{s:List ak}{E:List (T×T)}:∀{o o':Option (List ak)},iN s E o->iN s E o'->o=o'
 |none,none,_,_=>rfl
 |some s1,none,h,b4=>absurd h.1.2 (b4 s1 h.1.1 fun aQ=>(h.2 aQ).1)
 |none,some s1,b4,h=>absurd h.1.2 (b4 s1 h.1.1 fun aQ=>(h.2 aQ).1)
 |some s1,some s2,h,b4=>by rw[alN h.1.1 b4.1.1 fun aQ=>(h.2 aQ).trans (b4.2 aQ).symm]
theorem zw{s s2:List ak}{E OA:List (T×T)}(h:∀aQ,(gv s aQ/\jQ E aQ)↔(gv s2 aQ/\jQ OA aQ)):∀{o:Option (List ak)},iN s E o->iN s2 OA o
 |none,aJ=>fun ah J U=>aJ ah J fun aQ gL=>(h aQ).2 (U aQ gL)
 |some s1,aJ=>⟨aJ.1,fun aQ=>(aJ.2 aQ).trans (h aQ)⟩
theorem IL{s s1:List ak}{E mD:List (T×T)}(h:iN s E (some s1)):∀{o:Option (List ak)},iN s1 mD o->iN s (E++mD) o
 |none,aJ=>fun ah J U=>aJ ah J fun aQ gL=>⟨(h.2 aQ).2 ⟨(U aQ gL).1,(Eo.1 (U aQ gL).2).1⟩,(Eo.1 (U aQ gL).2).2⟩
 |some s2,aJ=>⟨aJ.1,fun aQ=>by rw[aJ.2 aQ,h.2 aQ,Eo,and_assoc]⟩
theorem E1{s:List ak}{E:List (T×T)}(mD:List (T×T))(h:iN s E none):iN s (E++mD) none:=fun ah J U=>h ah J fun aQ gL=>⟨(U aQ gL).1,(Eo.1 (U aQ gL).2).1⟩
theorem E0{s:List ak}{E:List (T×T)}(h:∀aQ,gv s aQ->¬jQ E aQ):iN s E none:=fun ah J U=>absurd (U _ (xg J)).2 (h _ (U _ (xg J)).1)
theorem IM{s:List ak}(ag:ft s)(aR:fS s):iN s [] (some s):=⟨⟨ag,aR⟩,fun aQ=>⟨fun h=>⟨h,Ep aQ⟩,fun h=>h.1⟩⟩
def one(v:Int)(x:T)(w:Int):T:=if w=v then x else .var w
def o0(b:ak):List ak->List ak
 |[]=>[b]
 |c::s=>if b.v<c.v then b::c::s else c::o0 b s
def mH(s:List ak)(v:Int)(x:T):List ak:=o0 ⟨v,x⟩ (s.map fun b=>⟨b.v,b.t.ap (one v x)⟩)
theorem L1{b x:ak}:∀{s:List ak},x∈o0 b s↔x=b\/x∈s
 |[]=>by simp[o0]
 |c::s=>by
  simp only[o0];split
  ·simp
  ·simp only[fD,L1 (s:=s)];constructor
   ·rintro(h|h|h)
    ·exact .inr (.inl h)
    ·exact .inl h
    ·exact .inr (.inr h)
   ·rintro(h|h|h)
    ·exact .inr (.inl h)
    ·exact .inl h
    ·exact .inr (.inr h)
theorem UJ{b:ak}:∀{s:List ak},(o0 b s).length=s.length+1
 |[]=>rfl
 |c::s=>by simp only[o0];split<;>simp[UJ]
theorem OW{b:ak}:∀{s:List ak},gQ s->(∀c∈s,c.v≠b.v)->gQ (o0 b s)
 |[],_,_=>by simp[o0]
 |c::s,bk,ay=>by
  have nz:=mC.1 bk;simp only[o0];split
  ·rename_i bs;refine mC.2 ⟨fun x ae=>?_,bk⟩;rcases fD.1 ae with rfl|ae
   ·exact bs
   ·have:=nz.1 x ae;omega
  ·rename_i wo;refine mC.2 ⟨fun x ae=>?_,OW nz.2 fun c aq=>ay c (by simp[aq])⟩;rcases L1.1 ae with rfl|ae
   ·have:=ay c Ψ;omega
   ·exact nz.1 x ae
theorem qv{s:List ak}{v:Int}{x:T}{b:ak}:b∈mH s v x↔b=⟨v,x⟩\/ ∃c∈s,b=⟨c.v,c.t.ap (one v x)⟩:=by unfold mH;rw[L1,iy];refine or_congr Iff.rfl ⟨fun⟨c,J,U⟩=>⟨c,J,U.symm⟩,fun⟨c,J,U⟩=>⟨c,J,U.symm⟩⟩
theorem VR{v:Int}{x:T}{aQ:Int->T}(h:aQ v=x.ap aQ)(t:T):(t.ap (one v x)).ap aQ=t.ap aQ:=by
 rw[B5];refine p4 fun w _=>?_;unfold one;split
 ·rename_i e;subst e;exact h.symm
 ·rfl
theorem E7{s:List ak}{v w:Int}{x:T}:cU (mH s v x) w=none↔w≠v/\cU s w=none:=by
 rw[vR,vR];constructor
 ·intro h;exact⟨fun e=>h ⟨v,x⟩ (qv.2 (.inl rfl)) e.symm,fun b ab=>h ⟨b.v,b.t.ap (one v x)⟩ (qv.2 (.inr ⟨b,ab,rfl⟩))⟩
 ·rintro⟨J,U⟩ b ab;rcases qv.1 ab with rfl|⟨c,aq,rfl⟩
  ·exact fun e=>J e.symm
  ·exact U c aq
theorem Nv{s:List ak}(ag:ft s){t:T}{w:Int}(h:(t.ap (bh s)).occ w=true):cU s w=none:=by
 obtain⟨u,_,U⟩:=A5.1 h;unfold bh at U;cases e:cU s u with
 |none=>rw[e]at U;simp[T.occ]at U;subst U;exact e
 |some t=>rw[e]at U;exact ag.free _ (iP e) w U
theorem alM{s:List ak}(ag:ft s){v:Int}{t:T}(aC:cU s v=none)(ax:(t.ap (bh s)).occ v=false)(tF:∀w,t.ap (bh s)= .var w->w<v):ft (mH s v (t.ap (bh s))):=by
 have ae:∀w,(t.ap (bh s)).occ w=true->cU (mH s v (t.ap (bh s))) w=none:=fun w hw=>E7.2 ⟨fun e=>(by subst e;rw[ax]at hw;cases hw),Nv ag hw⟩;refine⟨OW ?_ ?_,fun b ab w hw=>?_,fun b ab w hw=>?_⟩
 ·rw[gQ,List.pairwise_map];exact ag.asc
 ·intro c aq;obtain⟨b,ab,rfl⟩:=iy.1 aq;exact vR.1 aC b ab
 ·rcases qv.1 ab with rfl|⟨c,aq,rfl⟩
  ·exact ae w hw
  ·obtain⟨u,J,U⟩:=A5.1 hw;unfold one at U;split at U
   ·exact ae w U
   ·rename_i cK;simp[T.occ]at U;subst U;exact E7.2 ⟨cK,ag.free c aq _ J⟩
 ·rcases qv.1 ab with rfl|⟨c,aq,rfl⟩
  ·exact tF w hw
  ·simp only at hw⊢;cases e:c.t with
   |var u=>
    have:=ag.ori c aq u e;rw[e]at hw;simp only[T.ap,one]at hw;split at hw
    ·rename_i aF;subst aF;have:=tF w hw;omega
    ·cases hw;exact this
   |_=>rw[e]at hw;simp[T.ap]at hw
theorem Xt{s:List ak}{v:Int}{t:T}(aQ:Int->T):gv (mH s v (t.ap (bh s))) aQ↔gv s aQ/\jQ [(.var v,t)] aQ:=by
 have ao:jQ [(.var v,t)] aQ↔aQ v=t.ap aQ:=by simp[jQ,T.ap]
 rw[ao];constructor
 ·intro h;have bE:aQ v=(t.ap (bh s)).ap aQ:=h _ (qv.2 (.inl rfl));have J:gv s aQ:=fun b ab=>by have:=h _ (qv.2 (.inr ⟨b,ab,rfl⟩));simp only at this;rw[VR bE]at this;exact this
  exact⟨J,by rw[NA J t];exact bE⟩
 ·rintro⟨J,U⟩ b ab;have bE:aQ v=(t.ap (bh s)).ap aQ:=by rw[<-NA J t];exact U
  rcases qv.1 ab with rfl|⟨c,aq,rfl⟩
  ·exact bE
  ·simp only;rw[VR bE];exact J c aq
open Classical in
theorem Y8{s:List ak}(ag:ft s){v:Int}{t:T}(aC:cU s v=none)(ax:(t.ap (bh s)).occ v=false)(tF:∀w,t.ap (bh s)= .var w->w<v):iN s [(.var v,t)] (if fS (mH s v (t.ap (bh s)))then some (mH s v (t.ap (bh s)))else none):=by
 have J:=alM ag aC ax tF;split
 ·rename_i aR;exact⟨⟨J,aR⟩,Xt⟩
 ·rename_i aR;exact fun ah U ar a8=>aR (R8 J U (fun aQ gL=>(Xt aQ).2 (ar aQ gL)) a8)
def ht(s:List ak):T->T
 | .var n=>bh s n
 |t=>t
def n2(s:List ak)(v:Int)(t:T):Option (List ak):=if(t.ap (bh s)).size<=5000/\(t.ap (bh s)).occ v=false/\s.length<400/\∀b∈s,(b.t.ap (one v (t.ap (bh s)))).size<=5000 then some (mH s v (t.ap (bh s)))else none
def kj(rec:List ak->T->T->Option (Option (List ak)))(s:List ak):T->T->Option (Option (List ak))
 | .var i,.var j=>some (if i<j then n2 s j (.var i)else if i=j then some s else n2 s i (.var j))
 | .var i,y=>some (n2 s i y)
 |x,.var j=>some (n2 s j x)
 | .pair bB a2,.pair ck ca=>match rec s bB ck with
  |none=>none
  |some none=>some none
  |some (some s1)=>rec s1 a2 ca
 |x,y=>some (if x=y then some s else none)
def kV:Nat->List ak->T->T->Option (Option (List ak))
 |0,_,_,_=>none
 |n+1,s,a,b=>kj (kV n) s (ht s a) (ht s b)
theorem amb{rec M3:List ak->T->T->Option (Option (List ak))}(h:∀s a b o,rec s a b=some o->M3 s a b=some o){s:List ak}{x y:T}{o:Option (List ak)}(he:kj rec s x y=some o):kj M3 s x y=some o:=by
 cases x<;>cases y<;>simp only[kj]at he⊢ <;>try exact he
 rename_i bB a2 ck ca;cases e:rec s bB ck with
 |none=>rw[e]at he;cases he
 |some hf=>
  rw[e]at he;rw[h _ _ _ _ e];cases hf with
  |none=>exact he
  |some s1=>exact h _ _ _ _ he
theorem Ew:∀{n m:Nat} {s:List ak} {a b:T} {o:Option (List ak)},n<=m->kV n s a b=some o->kV m s a b=some o
 |0,_,_,_,_,_,_,h=>by simp[kV]at h
 |n+1,0,_,_,_,_,hm,_=>Ω
 |n+1,m+1,s,a,b,o,hm,h=>by simp only[kV]at h⊢;exact amb (fun s a b o h=>Ew Ω h) h
theorem J4{s:List ak}{v:Int}{x:T}:fS (mH s v x)↔(x.size<=5000/\s.length<400/\∀b∈s,(b.t.ap (one v x)).size<=5000):=by
 have av:(mH s v x).length=s.length+1:=by simp[mH,UJ]
 unfold fS;rw[av];constructor
 ·rintro⟨J,U⟩;exact⟨U _ (qv.2 (.inl rfl)),Ω,fun b ab=>U _ (qv.2 (.inr ⟨b,ab,rfl⟩))⟩
 ·rintro⟨J,U,ar⟩;refine⟨Ω,fun b ab=>?_⟩;rcases qv.1 ab with rfl|⟨c,aq,rfl⟩
  ·exact J
  ·exact ar c aq
theorem Y9{s:List ak}(ag:ft s){v:Int}{t:T}(aC:cU s v=none)(cK:t.ap (bh s)≠ .var v)(tF:∀w,t.ap (bh s)= .var w->w<v):iN s [(.var v,t)] (n2 s v t):=by
 unfold n2;cases ax:(t.ap (bh s)).occ v with
 |true=>
  rw[if_neg Ψ];refine E0 fun aQ J U=>?_;have ar:=(ri.1 U).1;simp only[T.ap]at ar;rw[NA J t]at ar;have ad:(t.ap (bh s)).kind≠1:=by
   intro ad;cases e:t.ap (bh s)with
   |var w=>rw[e]at ax;simp[T.occ]at ax;subst ax;exact cK e
   |_=>rw[e]at ad;simp[T.kind]at ad
  have:=(A6 aQ ax).2 ad;rw[<-ar]at this;omega
 |false=>
  have J:=Y8 ag aC ax tF;by_cases aR:fS (mH s v (t.ap (bh s)))
  ·rw[if_pos aR]at J;rw[if_pos ⟨(J4.1 aR).1,rfl,(J4.1 aR).2⟩];exact J
  ·rw[if_neg aR]at J;rw[if_neg fun h=>aR (J4.2 ⟨h.1,h.2.2⟩)];exact J
theorem Yu{s:List ak}(ag:ft s){t:T}{i:Int}(h:ht s t= .var i):cU s i=none:=by
 cases t with
 |var n=>
  simp only[ht,bh]at h;cases e:cU s n with
  |none=>rw[e]at h;simp at h;subst h;exact e
  |some u=>rw[e]at h;simp at h;subst h;exact ag.free _ (iP e) i (by simp[T.occ])
 |_=>simp[ht]at h
theorem Oi{s:List ak}{aQ:Int->T}(h:gv s aQ)(t:T):(ht s t).ap aQ=t.ap aQ:=by
 cases t with
 |var n=>
  simp only[ht,T.ap,bh];cases e:cU s n with
  |none=>rfl
  |some u=>exact(h _ (iP e)).symm
 |_=>rfl
theorem Yw{s:List ak}(ag:ft s)(t:T):(ht s t).ap (bh s)=t.ap (bh s):=Oi (xg ag) t
def qm(V:List Int)(t:T):Prop:= ∀w,t.occ w=true->w∈V
def yy(V:List Int)(s:List ak):Prop:= ∀b∈s,b.v∈V/\qm V b.t
def zK(V:List Int)(s:List ak):Nat:=(V.filter fun v=>(cU s v).isNone).length
theorem R7{α:Type}{p q:α->Bool}{v:α}:∀{V:List α},(∀x∈V,q x=true->p x=true)->v∈V->p v=true->q v=false->(V.filter q).length<(V.filter p).length
 |[],_,h,_,_=>by simp at h
 |x::V,h,aC,bK,bF=>by
  have hle:∀W:List α,(∀x∈W,q x=true->p x=true)->(W.filter q).length<=(W.filter p).length:=by
   intro W;induction W with
   |nil=>intro _;simp
   |cons y W bU=>intro x7;have:=bU fun x ae=>x7 x (by simp[ae]);have aH:=x7 y Ψ;simp only[List.filter_cons];cases e:q y<;>cases aF:p y<;>simp_all<;>omega
  simp only[List.filter_cons];rcases fD.1 aC with rfl|aC
  ·have:=hle V fun x ae=>h x (by simp[ae]);simp[bK,bF];omega
  ·have:=R7 (fun x ae=>h x (oE _ ae)) aC bK bF;have ae:=h x Ψ;cases e:q x<;>cases aF:p x<;>simp_all<;>omega
theorem ZS{V:List Int}{s:List ak}{v:Int}{x:T}(aC:v∈V)(ay:cU s v=none):zK V (mH s v x)<zK V s:=by
 unfold zK;refine R7 (v:=v) (fun w _ h=>?_) aC (by simp[ay]) ?_
 ·rw[Option.isNone_iff_eq_none,E7]at h;simp[h.2]
 ·cases e:cU (mH s v x) v with
  |none=>exact absurd rfl (E7.1 e).1
  |some _=>rfl
theorem TZ{V:List Int}{s:List ak}(h:yy V s){t:T}(aM:qm V t):qm V (t.ap (bh s)):=fun w hw=>by
 obtain⟨u,J,U⟩:=A5.1 hw;unfold bh at U;cases e:cU s u with
 |none=>rw[e]at U;simp[T.occ]at U;subst U;exact aM _ J
 |some x=>rw[e]at U;exact(h _ (iP e)).2 w U
theorem agf{V:List Int}{s:List ak}(h:yy V s){v:Int}{x:T}(aC:v∈V)(ae:qm V x):yy V (mH s v x):=fun b ab=>by
 rcases qv.1 ab with rfl|⟨c,aq,rfl⟩
 ·exact⟨aC,ae⟩
 ·refine⟨(h c aq).1,fun w hw=>?_⟩;obtain⟨u,J,U⟩:=A5.1 hw;unfold one at U;split at U
  ·exact ae w U
  ·simp[T.occ]at U;subst U;exact(h c aq).2 _ J
theorem T0{V:List Int}{s:List ak}(h:yy V s){t:T}(aM:qm V t):qm V (ht s t):=by
 cases t with
 |var n=>have:=TZ h aM;simpa[ht,T.ap]using this
 |_=>exact aM
def B0(V:List Int)(s:List ak)(a b:T)(o:Option (List ak)):Prop:=iN s [(a,b)] o/\∀ah,o=some ah->yy V ah/\(ah=s\/zK V ah<zK V s)
theorem Ex{V:List Int}{s:List ak}(ag:ft s)(jA:yy V s){v:Int}{t a b:T}(aC:v∈V)(aM:qm V t)(ay:cU s v=none)(cK:t.ap (bh s)≠ .var v)(tF:∀w,t.ap (bh s)= .var w->w<v)(aq:∀aQ,gv s aQ->(aQ v=t.ap aQ↔a.ap aQ=b.ap aQ)):B0 V s a b (n2 s v t):=by
 refine⟨zw (fun aQ=>?_) (Y9 ag ay cK tF),fun ah h=>?_⟩
 ·refine and_congr_right fun h=>?_;rw[ri,ri];simp only[T.ap,aq aQ h]
 ·unfold n2 at h;split at h
  ·cases h;exact⟨agf jA aC (TZ jA aM),.inr (ZS aC ay)⟩
  ·cases h
theorem Bz{s:List ak}{i:Int}(h:cU s i=none):bh s i= .var i:=by simp[bh,h]
theorem XP(V:List Int)(k:Nat):∀(m:Nat) (s:List ak) (a b:T),ft s->fS s->yy V s->qm V a->qm V b->zK V s=k->(a.ap (bh s)).size+(b.ap (bh s)).size=m->
  ∃n o,kV n s a b=some o/\B0 V s a b o:=by
 induction k using rF with
 |ind k Lh=>
 intro m;induction m using rF with
 |ind m AG=>
 intro s a b ag aR jA bk ab ad hm;have ae:=T0 jA bk;have aH:=T0 jA ab;have NJ:=Yw ag a;have NK:=Yw ag b;have uC:=fun aQ (h:gv s aQ)=>Oi h a;have nZ:=fun aQ (h:gv s aQ)=>Oi h b;have qX:=fun i=>Yu ag (t:=a) (i:=i);have J9:=fun i=>Yu ag (t:=b) (i:=i);have key:∀(rec:List ak->T->T->Option (Option (List ak))) (o:Option (List ak)),kj rec s (ht s a) (ht s b)=some o->(∀bB a2 ck ca,ht s a= .pair bB a2->ht s b= .pair ck ca->B0 V s a b o)->B0 V s a b o:=by
  intro rec o he bK;cases ex:ht s a with
  |var i=>
   have zV:=qX i ex;have qO:=fun aQ h=>(uC aQ h).symm.trans (by rw[ex]);cases h9:ht s b with
   |var j=>
    have x0:=J9 j h9;have pw:=fun aQ h=>(nZ aQ h).symm.trans (by rw[h9]);rw[ex,h9]at he;simp only[kj]at he;have hi:i∈V:=by rw[ex]at ae;exact ae i (by simp[T.occ])
    have af:j∈V:=by rw[h9]at aH;exact aH j (by simp[T.occ])
    rcases Int.lt_trichotomy i j with h|h|h
    ·rw[if_pos h]at he;cases he;refine Ex ag jA af (by rw[ex]at ae;exact ae) x0 (by simp[T.ap,Bz zV];omega) (fun w hw=>by simp[T.ap,Bz zV]at hw;omega) fun aQ gL=>?_;rw[qO aQ gL,pw aQ gL];simp only[T.ap];exact⟨Eq.symm,Eq.symm⟩
    ·subst h;rw[if_neg Ω,if_pos rfl]at he;cases he;refine⟨⟨⟨ag,aR⟩,fun aQ=>⟨fun h=>⟨h,ri.2 ⟨?_,Ep aQ⟩⟩,fun h=>h.1⟩⟩,fun ah e=>by cases e;exact⟨jA,.inl rfl⟩⟩;simp only;rw[qO aQ h,pw aQ h]
    ·rw[if_neg Ω,if_neg Ω]at he;cases he;refine Ex ag jA hi (by rw[h9]at aH;exact aH) zV (by simp[T.ap,Bz x0];omega) (fun w hw=>by simp[T.ap,Bz x0]at hw;omega) fun aQ gL=>?_;rw[qO aQ gL,pw aQ gL];simp only[T.ap]
   |_=>have pw:=fun aQ h=>(nZ aQ h).symm.trans (by rw[h9]);rw[ex,h9]at he;simp only[kj]at he;cases he;refine Ex ag jA (by rw[ex]at ae;exact ae i (by simp[T.occ])) (by rw[h9]at aH;exact aH) zV (by simp[T.ap]) (fun w hw=>by simp[T.ap]at hw) fun aQ gL=>?_;rw[qO aQ gL,pw aQ gL];simp only[T.ap]
  |pair bB a2=>
   cases h9:ht s b with
   |pair ck ca=>exact bK bB a2 ck ca ex h9
   |var j=>have x0:=J9 j h9;have qO:=fun aQ h=>(uC aQ h).symm.trans (by rw[ex]);have pw:=fun aQ h=>(nZ aQ h).symm.trans (by rw[h9]);rw[ex,h9]at he;simp only[kj]at he;cases he;refine Ex ag jA (by rw[h9]at aH;exact aH j (by simp[T.occ])) (by rw[ex]at ae;exact ae) x0 (by simp[T.ap]) (fun w hw=>by simp[T.ap]at hw) fun aQ gL=>?_;rw[qO aQ gL,pw aQ gL];simp only[T.ap];exact⟨Eq.symm,Eq.symm⟩
   |_=>have qO:=fun aQ h=>(uC aQ h).symm.trans (by rw[ex]);have pw:=fun aQ h=>(nZ aQ h).symm.trans (by rw[h9]);rw[ex,h9]at he;simp only[kj]at he;simp at he;subst he;refine⟨E0 fun aQ J U=>?_,fun ah e=>by cases e⟩;have:=(ri.1 U).1;simp only at this;rw[qO aQ J,pw aQ J]at this;simp[T.ap]at this
  |_=>
   have qO:=fun aQ h=>(uC aQ h).symm.trans (by rw[ex]);cases h9:ht s b with
   |var j=>have x0:=J9 j h9;have pw:=fun aQ h=>(nZ aQ h).symm.trans (by rw[h9]);rw[ex,h9]at he;simp only[kj]at he;cases he;refine Ex ag jA (by rw[h9]at aH;exact aH j (by simp[T.occ])) (by rw[ex]at ae;exact ae) x0 (by simp[T.ap]) (fun w hw=>by simp[T.ap]at hw) fun aQ gL=>?_;rw[qO aQ gL,pw aQ gL];simp only[T.ap];exact⟨Eq.symm,Eq.symm⟩
   |_=>
    have pw:=fun aQ h=>(nZ aQ h).symm.trans (by rw[h9]);rw[ex,h9]at he;simp only[kj,dC]at he;split at he
    ·rename_i e;subst he;refine⟨⟨⟨ag,aR⟩,fun aQ=>⟨fun h=>⟨h,ri.2 ⟨?_,Ep aQ⟩⟩,fun h=>h.1⟩⟩,fun ah e=>by cases e;exact⟨jA,.inl rfl⟩⟩;simp only;rw[qO aQ h,pw aQ h];try rw[e]
    ·rename_i e;subst he;refine⟨E0 fun aQ J U=>?_,fun ah e=>by cases e⟩;have:=(ri.1 U).1;simp only at this;rw[qO aQ J,pw aQ J]at this;simp[T.ap]at this e;try exact e this
 by_cases Gk:∃bB a2 ck ca,ht s a= .pair bB a2/\ht s b= .pair ck ca
 ·obtain⟨bB,a2,ck,ca,ex,h9⟩:=Gk;have dS:(bB.ap (bh s)).size+(ck.ap (bh s)).size<m/\(a2.ap (bh s)).size+(ca.ap (bh s)).size<m:=by rw[ex]at NJ;rw[h9]at NK;simp only[T.ap]at NJ NK;rw[<-hm,<-NJ,<-NK];simp only[T.size];omega
  have ln:qm V bB:=fun w hw=>by rw[ex]at ae;exact ae w (by simp[T.occ,hw])
  have qc:qm V a2:=fun w hw=>by rw[ex]at ae;exact ae w (by simp[T.occ,hw])
  have j5:qm V ck:=fun w hw=>by rw[h9]at aH;exact aH w (by simp[T.occ,hw])
  have nC:qm V ca:=fun w hw=>by rw[h9]at aH;exact aH w (by simp[T.occ,hw])
  have S5:∀aQ,(gv s aQ/\jQ ([(bB,ck)]++[(a2,ca)]) aQ)↔(gv s aQ/\jQ [(a,b)] aQ):=fun aQ=>and_congr_right fun h=>by simp only[List.singleton_append,ri,Ep,and_true];rw[<-uC aQ h,<-nZ aQ h,ex,h9];simp[T.ap]
  obtain⟨iw,hf,ao,c0⟩:=AG _ dS.1 s bB ck ag aR jA ln j5 ad rfl;cases hf with
  |none=>refine⟨iw+1,none,?_,zw S5 (E1 _ c0.1),fun ah e=>by cases e⟩;simp only[kV,ex,h9,kj,ao]
  |some s1=>
   obtain⟨v1,v2⟩:=c0.2 s1 rfl;have C7:∃gp gU,kV gp s1 a2 ca=some gU/\B0 V s1 a2 ca gU:=by
    rcases v2 with rfl|v2
    ·exact AG _ dS.2 _ a2 ca ag aR jA qc nC ad rfl
    ·exact Lh _ Ω _ s1 a2 ca c0.1.1.1 c0.1.1.2 v1 qc nC rfl rfl
   obtain⟨gp,gU,aF,du⟩:=C7;refine⟨max iw gp+1,gU,?_,zw S5 (IL c0.1 du.1),fun ah e=>?_⟩
   ·simp only[kV,ex,h9,kj,Ew (Nat.le_max_left iw gp) ao];exact Ew (Nat.le_max_right iw gp) aF
   ·obtain⟨eV,dP⟩:=du.2 ah e;refine⟨eV,?_⟩;rcases v2 with rfl|v2
    ·exact dP
    ·rcases dP with rfl|dP
     ·exact .inr v2
     ·exact .inr Ω
 ·have Tv:∀bB a2 ck ca,ht s a= .pair bB a2->ht s b= .pair ck ca->eW:=fun bB a2 ck ca J U=>Gk ⟨bB,a2,ck,ca,J,U⟩;have:∃o,kj (kV 0) s (ht s a) (ht s b)=some o:=by cases ex:ht s a<;>cases h9:ht s b<;>simp only[kj]<;>first|exact⟨_,rfl⟩|exact(Tv _ _ _ _ ex h9).elim
  obtain⟨o,ax⟩:=this;exact⟨1,o,ax,key _ o ax fun bB a2 ck ca J U=>(Tv bB a2 ck ca J U).elim⟩
def tg{α:Type}(k:Int):List (Int×α)->Option α
 |[]=>none
 |(i,v)::r=>if k=i then some v else tg k r
def eS{α:Type}(k:Int)(v:α):List (Int×α)->List (Int×α)
 |[]=>[(k,v)]
 |(i,w)::r=>if k=i then(i,v)::r else(i,w)::eS k v r
def cv{α:Type}(m:List (Int×α)):List Int:=m.map (·.1)
theorem nh{α:Type}(k:Int)(v:α)(j:Int):∀m:List (Int×α),tg j (eS k v m)=if j=k then some v else tg j m
 |[]=>by simp only[eS,tg]
 |(i,w)::r=>by
  simp only[eS];by_cases h:k=i
  ·subst h;by_cases U:j=k<;>simp[tg,U]
  ·by_cases U:j=i
   ·subst U;have:¬j=k:=fun e=>h e.symm;simp[tg,h,this]
   ·simp[tg,h,U,nh k v j r]
theorem Ie{α:Type}{k:Int}:∀{m:List (Int×α)},(tg k m).isSome=true↔k∈cv m
 |[]=>by simp[tg,cv]
 |(i,w)::r=>by
  simp only[tg,cv,hk,fD];by_cases h:k=i
  ·simp[h]
  ·simp only[h,if_false,false_or];exact Ie
theorem al6{α:Type}{k:Int}{m:List (Int×α)}:tg k m=none↔k∉cv m:=by rw[<-Ie];cases tg k m<;>simp
theorem Dt{α:Type}{k:Int}{v:α}:∀{m:List (Int×α)},k∈cv m->cv (eS k v m)=cv m
 |[],h=>by simp[cv]at h
 |(i,w)::r,h=>by
  simp only[eS];by_cases e:k=i
  ·simp[e,cv]
  ·rw[if_neg e];have b4:k∈cv r:=by simpa[cv,e]using h
   have:=Dt (v:=v) b4;simp only[cv]at this⊢;simp[this]
theorem Uu{α:Type}{k:Int}{v:α}:∀{m:List (Int×α)},k∉cv m->cv (eS k v m)=cv m++[k]
 |[],h=>by simp[cv,eS]
 |(i,w)::r,h=>by have e:¬k=i:=fun e=>h (by simp[cv,e]);have b4:k∉cv r:=fun ad=>h (by simp[cv]at ad⊢;exact .inr ad);have:=Uu (v:=v) b4;simp only[eS,if_neg e];simp only[cv]at this⊢;simp[this]
structure bt where
 up:List (Int×Int)
 shape:List (Int×T)
 shaped:List (Int×Bool)
 color:List (Int×Int)
 size:List (Int×Int)
 full:List (Int×T)
def bt.shd(c:bt)(x:Int):Bool:=(tg x c.shaped).getD false
def bt.shp(c:bt)(x:Int):T:=(tg x c.shape).getD .nil
def bt.col(c:bt)(x:Int):Int:=(tg x c.color).getD 0
def bt.sz(c:bt)(x:Int):Int:=(tg x c.size).getD 0
def hq(m:List (Int×Int))(v:Int):Int:=(tg v m).getD 0
def xd:Nat->List (Int×Int)->Int->Option (Int×List (Int×Int))
 |0,_,_=>none
 |n+1,m,v=>if hq m v=v then some (v,m)else xd n (eS v (hq m (hq m v)) m) (hq (eS v (hq m (hq m v)) m) v)
def zx(v:Int)(m:List (Int×Int)):List (Int×Int):=if(tg v m).isSome then m else eS v v m
def rt(c:bt)(v:Int):Option (Int×bt):=(xd (v.toNat+1) (zx v c.up) v).map fun p=>(p.1,{c with up:=p.2})
def T.foldO{α:Type}(f:Int->α->Option α):T->α->Option α
 | .var n,a=>f n a
 | .pair x y,a=>(x.foldO f a).bind (y.foldO f)
 |_,a=>some a
def T.mapO{α:Type}(f:Int->α->Option (T×α)):T->α->Option (T×α)
 | .var n,a=>f n a
 | .pair x y,a=>(x.mapO f a).bind fun p=>(y.mapO f p.2).map fun q=>(.pair p.1 q.1,q.2)
 |t,a=>some (t,a)
def T.sizeO{α:Type}(f:Int->α->Option (Int×α)):T->α->Option (Int×α)
 | .var n,a=>(f n a).map fun p=>(if 5001<p.1 then 5001 else p.1,p.2)
 | .pair x y,a=>(x.sizeO f a).bind fun p=>if 5000<p.1 then some p else(y.sizeO f p.2).map fun q=>(if 5001<1+p.1+q.1 then 5001 else 1+p.1+q.1,q.2)
 |_,a=>some (1,a)
def AU(t:T)(c:bt):Option bt:=t.foldO (fun v c=>(rt c v).map (·.2)) c
structure uv where
 c:bt
 seen:List (Int×Bool)
 found:Bool
def xc(rec:T->bt->List (Int×Bool)->Option uv)(x:Int)(v:Int)(a:uv):Option uv:=
 (rt a.c v).bind fun p=>if a.found=true\/p.1=x then some ⟨p.2,a.seen,true⟩
  else if(tg p.1 a.seen).getD false=false/\p.2.shd p.1=true then rec (p.2.shp p.1) p.2 (eS p.1 true a.seen)
  else some ⟨p.2,a.seen,a.found⟩
def pV:Nat->Int->T->bt->List (Int×Bool)->Option uv
 |0,_,_,_,_=>none
 |n+1,x,t,c,seen=>t.foldO (xc (pV n x) x) ⟨c,seen,false⟩
def bt.know(c:bt)(x:Int)(t:T):bt:={c with shape:=eS x t c.shape,shaped:=eS x true c.shaped}
def vi(n:Nat)(x:Int)(t:T)(c:bt):Option (Bool×bt):=(pV n x t (c.know x t) []).map fun a=>(!a.found,a.c)
def bt.join(c:bt)(x y:Int):bt:={c with up:=eS y x c.up}
def rP(rec:T->T->bt->Option (Bool×bt))(n:Nat)(x y:Int)(c:bt):Option (Bool×bt):=
 if c.shd y=false then
  (if c.shd x=false then some (true,c)else(pV n x (c.shp x) c []).map fun a=>(!a.found,a.c))
 else if c.shd x=false then vi n x (c.shp y) c
 else(pV n x (c.shp y) c []).bind fun a=>if a.found=true then some (false,a.c)else
  (pV n x (a.c.shp x) a.c []).bind fun b=>if b.found=true then some (false,b.c)else rec (b.c.shp x) (c.shp y) b.c
def gF:Nat->T->T->bt->Option (Bool×bt)
 |0,_,_,_=>none
 |n+1,.var i,.var j,c=>(rt c i).bind fun p=>(rt p.2 j).bind fun q=>if p.1=q.1 then some (true,q.2)else if q.1<p.1 then rP (gF n) n q.1 p.1 (q.2.join q.1 p.1)else rP (gF n) n p.1 q.1 (q.2.join p.1 q.1)
 |n+1,.var i,b,c=>(rt c i).bind fun p=>if p.2.shd p.1=false then vi n p.1 b p.2 else gF n (p.2.shp p.1) b p.2
 |n+1,a,.var j,c=>gF n (.var j) a c
 |n+1,.pair bB a2,.pair ck ca,c=>(gF n bB ck c).bind fun p=>if p.1=true then gF n a2 ca p.2 else some (false,p.2)
 |_+1,a,b,c=>some (decide (a=b),c)
structure jP (m:List (Int×Int)) (ρ:Int->Int):Prop where
 up:∀v u,tg v m=some u->(0<=u/\u<=v/\u∈cv m)/\ρ u=ρ v/\(ρ v=v↔u=v)
 no:∀v,v∉cv m->ρ v=v
theorem jP.get{m:List (Int×Int)}{ρ:Int->Int}(h:jP m ρ){v:Int}(aC:v∈cv m):∃u,tg v m=some u/\hq m v=u:=by have:=Ie.2 aC;obtain⟨u,hu⟩:=fE.1 this;exact⟨u,hu,by simp[hq,hu]⟩
theorem jP.root{m:List (Int×Int)}{ρ:Int->Int}(h:jP m ρ):∀(n:Nat) (v:Int),v.toNat<=n->(ρ v<=v/\ρ (ρ v)=ρ v/\(v∈cv m->ρ v∈cv m/\0<=ρ v)):=by
 intro n;induction n using rF with
 |ind n bU=>
 intro v ay;by_cases aC:v∈cv m
 ·obtain⟨u,J,_⟩:=h.get aC;obtain⟨⟨bB,a2,a3⟩,a4,a5⟩:=h.up v u J;by_cases e:u=v
  ·have:=a5.2 e;subst e;rw[this];exact⟨Ω,this,fun _=>⟨a3,bB⟩⟩
  ·obtain⟨ck,ca,gf⟩:=bU (u.toNat) Ω u Ω;rw[<-a4];exact⟨Ω,ca,fun _=>gf a3⟩
 ·have:=h.no v aC;rw[this];exact⟨Ω,this,fun h=>absurd h aC⟩
theorem jP.le{m:List (Int×Int)}{ρ:Int->Int}(h:jP m ρ)(v:Int):ρ v<=v:=(h.root v.toNat v (eX _)).1
theorem jP.idem{m:List (Int×Int)}{ρ:Int->Int}(h:jP m ρ)(v:Int):ρ (ρ v)=ρ v:=(h.root v.toNat v (eX _)).2.1
theorem jP.mem{m:List (Int×Int)}{ρ:Int->Int}(h:jP m ρ){v:Int}(aC:v∈cv m):ρ v∈cv m/\0<=ρ v:=(h.root v.toNat v (eX _)).2.2 aC
theorem Xl{ρ:Int->Int}:∀(n:Nat) (m:List (Int×Int)) (v:Int),jP m ρ->v∈cv m->v.toNat<n->∃h5,xd n m v=some (ρ v,h5)/\jP h5 ρ/\cv h5=cv m
 |0,_,_,_,_,ay=>Ω
 |n+1,m,v,h,aC,ay=>by
  obtain⟨u,J,U⟩:=h.get aC;obtain⟨⟨bB,a2,a3⟩,a4,a5⟩:=h.up v u J;simp only[xd,U];by_cases e:u=v
  ·rw[if_pos e];have:=a5.2 e;exact⟨m,by rw[this],h,rfl⟩
  ·rw[if_neg e];obtain⟨x,g1,g2⟩:=h.get a3;obtain⟨⟨ck,ca,gf⟩,uD,b5⟩:=h.up u x g1;rw[g2];have ad:=Dt (v:=x) aC;have ml:jP (eS v x m) ρ:=by
    refine⟨fun w y hw=>?_,fun w hw=>h.no w (by rw[ad]at hw;exact hw)⟩;rw[nh]at hw;rw[ad];by_cases ew:w=v
    ·subst ew;rw[if_pos rfl]at hw;cases hw;refine⟨⟨ck,Ω,gf⟩,by rw[uD,a4],⟨fun aJ=>absurd (a5.1 aJ) e,fun ae=>?_⟩⟩;have:u=w:=Ω
     exact absurd this e
    ·rw[if_neg ew]at hw;exact h.up w y hw
   have Az:hq (eS v x m) v=x:=by simp[hq,nh]
   rw[Az];obtain⟨h5,bT,cx,dy⟩:=Xl n (eS v x m) x ml (by rw[ad];exact gf) Ω;exact⟨h5,by rw[bT,uD,a4],cx,by rw[dy,ad]⟩
structure iM (ρ:Int->Int) (c cp:bt):Prop where
 ru:jP cp.up ρ
 keys:cv cp.up=cv c.up
 eq:cp={c with up:=cp.up}
theorem iM.refl{ρ:Int->Int}{c:bt}(h:jP c.up ρ):iM ρ c c:=⟨h,rfl,rfl⟩
theorem iM.trans{ρ:Int->Int}{a b c:bt}(h:iM ρ a b)(k:iM ρ b c):iM ρ a c:=⟨k.ru,k.keys.trans h.keys,by rw[k.eq,h.eq]⟩
theorem iM.shd{ρ:Int->Int}{c cp:bt}(h:iM ρ c cp)(x:Int):cp.shd x=c.shd x:=by rw[h.eq];rfl
theorem iM.shp{ρ:Int->Int}{c cp:bt}(h:iM ρ c cp)(x:Int):cp.shp x=c.shp x:=by rw[h.eq];rfl
theorem uc{ρ:Int->Int}{c:bt}{v:Int}(h:jP c.up ρ)(aC:v∈cv c.up):∃cp,rt c v=some (ρ v,cp)/\iM ρ c cp:=by
 have bk:zx v c.up=c.up:=by simp[zx,Ie.2 aC]
 obtain⟨h5,J,U,ar⟩:=Xl (v.toNat+1) c.up v h aC Ω;exact⟨{c with up:=h5},by simp[rt,bk,J],⟨U,ar,rfl⟩⟩
theorem ak6{ρ:Int->Int}{c:bt}{v:Int}(h:jP c.up ρ)(bE:0<=v)(aC:v∉cv c.up):rt c v=some (v,{c with up:=eS v v c.up})/\jP (eS v v c.up) ρ/\cv (eS v v c.up)=cv c.up++[v]:=by
 have ay:=al6.2 aC;have ad:=Uu (v:=v) aC;refine⟨?_,⟨fun w u hw=>?_,fun w hw=>h.no w fun hm=>hw (by rw[ad];simp[hm])⟩,ad⟩
 ·simp[rt,zx,ay,xd,hq,nh]
 ·rw[nh]at hw;rw[ad];by_cases e:w=v
  ·subst e;rw[if_pos rfl]at hw;cases hw;exact⟨⟨bE,Ω,Ψ⟩,rfl,⟨fun _=>rfl,fun _=>h.no _ aC⟩⟩
  ·rw[if_neg e]at hw;obtain⟨⟨bB,a2,a3⟩,a4⟩:=h.up w u hw;exact⟨⟨bB,a2,by simp[a3]⟩,a4⟩
def bt.ph(c:bt)(x:Int):Option T:=if c.shd x then some (c.shp x)else none
theorem iM.ph{ρ:Int->Int}{c cp:bt}(h:iM ρ c cp):cp.ph=c.ph:=by funext x;simp only[bt.ph,h.shd,h.shp]
def ko(ph:Int->Option T)(ρ:Int->Int)(aQ:Int->T):Prop:=(∀v,aQ v=aQ (ρ v))/\∀x t,ρ x=x->ph x=some t->aQ x=t.ap aQ
def jh(ph:Int->Option T)(ρ:Int->Int)(z u:Int):Prop:=ρ z=z/\∃t w,ph z=some t/\t.occ w=true/\ρ w=u
inductive nl (E:Int->Int->Prop):Int->Int->Prop
 |refl (a:Int):nl E a a
 |step {a b c:Int}:E a b->nl E b c->nl E a c
def oL(V:List Int)(ph:Int->Option T):Prop:= ∀x t,ph x=some t->t.kind≠1/\(∀w,t.occ w=true->w∈V)/\x∈V
def Ii(V:List Int)(ph:Int->Option T)(seen:List (Int×Bool)):Nat:=(V.filter fun v=>(ph v).isSome&& !((tg v seen).getD false)).length
def mU(seen:List (Int×Bool))(z:Int):Prop:=(tg z seen).getD false=true
structure Y2 (V:List Int) (ph:Int->Option T) (ρ:Int->Int) (x:Int) (occ:Int->Prop) (a bj:uv):Prop where
 sm:iM ρ a.c bj.c
 sub:∀z,mU a.seen z->mU bj.seen z
 yes:bj.found=true->a.found=true\/ ∃w,occ w/\nl (jh ph ρ) (ρ w) x
 kept:a.found=true->bj.found=true
 no:bj.found=false->(∀w,occ w->ρ w≠x/\((ph (ρ w)).isSome=true->mU bj.seen (ρ w)))/\∀r,mU bj.seen r->¬mU a.seen r->∀u,jh ph ρ r u->u≠x/\((ph u).isSome=true->mU bj.seen u)
theorem FJ{α:Type}{p q:α->Bool}:∀{V:List α},(∀x∈V,q x=true->p x=true)->(V.filter q).length<=(V.filter p).length
 |[],_=>by simp
 |y::V,h=>by have:=FJ (p:=p) (q:=q) (V:=V) fun x ae=>h x (by simp[ae]);have aH:=h y Ψ;simp only[List.filter_cons];cases e:q y<;>cases aF:p y<;>simp_all<;>omega
theorem FK{α:Type}{p q:α->Bool}{v:α}:∀{V:List α},(∀x∈V,q x=true->p x=true)->v∈V->p v=true->q v=false->(V.filter q).length<(V.filter p).length
 |[],_,h,_,_=>by simp at h
 |x::V,h,aC,bK,bF=>by
  have hle:=FJ (p:=p) (q:=q) (V:=V) fun x ae=>h x (oE _ ae);simp only[List.filter_cons];rcases fD.1 aC with rfl|aC
  ·simp[bK,bF];omega
  ·have:=FK (fun x ae=>h x (oE _ ae)) aC bK bF;have ae:=h x Ψ;cases e:q x<;>cases aF:p x<;>simp_all<;>omega
theorem amd{V:List Int}{ph:Int->Option T}{s ah:List (Int×Bool)}(h:∀z,mU s z->mU ah z):Ii V ph ah<=Ii V ph s:=
 FJ fun x _ ae=>by
  simp only[cE,rC]at ae⊢;refine⟨ae.1,?_⟩;cases e:(tg x s).getD false with
  |false=>rfl
  |true=>have:=h x e;unfold mU at this;rw[ae.2]at this;cases this
theorem Li{s:List (Int×Bool)}{r z:Int}:mU (eS r true s) z↔z=r\/mU s z:=by unfold mU;rw[nh];by_cases h:z=r<;>simp[h]
theorem akV{V:List Int}{ph:Int->Option T}{ρ:Int->Int}{x:Int}(gK:oL V ph)(k:Nat):∀(t:T) (a:uv),jP a.c.up ρ->cv a.c.up=V->a.c.ph=ph->(∀w,t.occ w=true->w∈V)->Ii V ph a.seen<=k->
  ∃N bj,(∀n,N<=n->t.foldO (xc (pV n x) x) a=some bj)/\Y2 V ph ρ x (fun w=>t.occ w=true) a bj:=by
 induction k using rF with
 |ind k Lh=>
 intro t;induction t with
 |var v=>
  intro a ml ad jD aM si;obtain⟨bT,J,U⟩:=uc ml (by rw[ad];exact aM v (by simp[T.occ]));have iX:bT.shd (ρ v)=(ph (ρ v)).isSome:=by rw[U.shd,<-jD];simp only[bt.ph];split<;>simp_all
  by_cases aR:a.found=true\/ρ v=x
  ·refine⟨0,⟨bT,a.seen,true⟩,fun n _=>by simp[T.foldO,xc,J,aR],U,fun z bf=>bf,fun _=>?_,fun _=>rfl,fun h=>by cases h⟩;rcases aR with aR|aR
   ·exact .inl aR
   ·exact .inr ⟨v,by simp[T.occ],by rw[aR];exact .refl _⟩
  ·by_cases ag:(tg (ρ v) a.seen).getD false=false/\bT.shd (ρ v)=true
   ·have Gj:ph (ρ v)=some (bT.shp (ρ v)):=by rw[<-jD];simp only[bt.ph,U.shp];rw[if_pos (by rw[<-U.shd];exact ag.2)]
    obtain⟨g1,g2,g3⟩:=gK _ _ Gj;have bs:Ii V ph (eS (ρ v) true a.seen)<k:=by
     refine Nat.lt_of_lt_of_le (FK (v:=ρ v) (fun z _ bf=>?_) g3 ?_ ?_) si
     ·simp only[cE,rC]at bf⊢;refine⟨bf.1,?_⟩;rw[nh]at bf;by_cases e:z=ρ v
      ·subst e;exact ag.1
      ·rw[if_neg e]at bf;exact bf.2
     ·simp[Gj,ag.1]
     ·simp[nh]
    obtain⟨N,bj,ao,c0⟩:=Lh _ bs (bT.shp (ρ v)) ⟨bT,eS (ρ v) true a.seen,false⟩ U.ru (by rw[U.keys];exact ad) (by rw[U.ph];exact jD) g2 (eX _);refine⟨N+1,bj,fun n ay=>?_,U.trans c0.sm,fun z bf=>c0.sub z (Li.2 (.inr bf)),fun aH=>?_,fun h=>absurd (.inl h) aR,fun cF=>?_⟩
    ·obtain⟨n',rfl⟩:∃n',n=n'+1:=⟨n-1,Ω⟩;simp only[T.foldO,xc,J,jK,if_neg aR,if_pos ag,pV];exact ao n' Ω
    ·rcases c0.yes aH with h|⟨w,a6,bD⟩
     ·cases h
     ·exact .inr ⟨v,by simp[T.occ],.step ⟨by rw[jP.idem ml],_,w,Gj,a6,rfl⟩ bD⟩
    ·obtain⟨a6,bD⟩:=c0.no cF;have gH:mU bj.seen (ρ v):=c0.sub _ (Li.2 (.inl rfl));refine⟨fun w hw=>?_,fun r aJ dH u hu=>?_⟩
     ·simp[T.occ]at hw;subst hw;exact⟨fun e=>aR (.inr e),fun _=>gH⟩
     ·by_cases qV:r=ρ v
      ·subst qV;obtain⟨_,dE,w,la,z2,rfl⟩:=hu;rw[Gj]at la;cases la;exact a6 w z2
      ·exact bD r aJ (fun h=>(Li.1 h).elim qV dH) u hu
   ·have CO:a.found=false:=by cases e:a.found with
     |false=>rfl
     |true=>exact absurd (.inl e) aR
    refine⟨0,⟨bT,a.seen,a.found⟩,fun n _=>by simp only[T.foldO,xc,J,jK,if_neg aR,if_neg ag],U,fun z bf=>bf,fun h=>.inl h,fun h=>h,fun _=>⟨fun w hw=>?_,fun r J U=>absurd J U⟩⟩;simp[T.occ]at hw;subst hw;refine⟨fun e=>aR (.inr e),fun bK=>?_⟩;unfold mU;cases e:(tg (ρ v) a.seen).getD false with
    |true=>rfl
    |false=>exact absurd ⟨e,by rw[iX];exact bK⟩ ag
 |pair p q agb agc=>
  intro a ml ad jD aM si;obtain⟨hO,bB,ao,c0⟩:=agb a ml ad jD (fun w hw=>aM w (by simp[T.occ,hw])) si;obtain⟨jj,a2,aF,du⟩:=agc bB c0.sm.ru (by rw[c0.sm.keys];exact ad) (by rw[c0.sm.ph];exact jD) (fun w hw=>aM w (by simp[T.occ,hw])) (kn (amd c0.sub) si);refine⟨max hO jj,a2,fun n ay=>by simp only[T.foldO];rw[ao n Ω];exact aF n Ω,c0.sm.trans du.sm,fun z bf=>du.sub z (c0.sub z bf),fun aH=>?_,fun h=>du.kept (c0.kept h),fun cF=>?_⟩
  ·rcases du.yes aH with h|⟨w,a6,bD⟩
   ·rcases c0.yes h with h|⟨w,a6,bD⟩
    ·exact .inl h
    ·exact .inr ⟨w,by simp[T.occ,a6],bD⟩
   ·exact .inr ⟨w,by simp[T.occ,a6],bD⟩
  ·have aeh:bB.found=false:=by cases e:bB.found with
    |false=>rfl
    |true=>have:=du.kept e;rw[cF]at this;cases this
   obtain⟨eU,fP⟩:=c0.no aeh;obtain⟨s1,s2⟩:=du.no cF;refine⟨fun w hw=>?_,fun r aJ dH u hu=>?_⟩
   ·simp only[T.occ,l4]at hw;rcases hw with hw|hw
    ·exact⟨(eU w hw).1,fun h=>du.sub _ ((eU w hw).2 h)⟩
    ·exact s1 w hw
   ·by_cases h:mU bB.seen r
    ·exact⟨(fP r h dH u hu).1,fun cu=>du.sub _ ((fP r h dH u hu).2 cu)⟩
    ·exact s2 r aJ h u hu
 |_=>intro a ml ad jD aM si;exact⟨0,a,fun n _=>rfl,iM.refl ml,fun z bf=>bf,fun h=>.inl h,fun h=>h,fun _=>⟨fun w hw=>by simp[T.occ]at hw,fun r J U=>absurd J U⟩⟩
theorem HF{ρ:Int->Int}{x:Int}{c:bt}{t:T}(ml:jP c.up ρ)(gK:oL (cv c.up) c.ph)(aM:∀w,t.occ w=true->w∈cv c.up):
  ∃N a,(∀n,N<=n->pV n x t c []=some a)/\iM ρ c a.c/\(a.found=true↔∃w,t.occ w=true/\nl (jh c.ph ρ) (ρ w) x):=by
 obtain⟨N,a,J,U⟩:=akV (x:=x) gK _ t ⟨c,[],false⟩ ml rfl rfl aM (eX _);refine⟨N+1,a,fun n ay=>?_,U.sm,fun h=>?_,fun⟨w,hw,aJ⟩=>?_⟩
 ·obtain⟨n',rfl⟩:∃n',n=n'+1:=⟨n-1,Ω⟩;exact J n' Ω
 ·rcases U.yes h with h|h
  ·cases h
  ·exact h
 ·cases e:a.found with
  |true=>rfl
  |false=>
   obtain⟨a6,bD⟩:=U.no e;have key:∀z,nl (jh c.ph ρ) z x->z≠x->((c.ph z).isSome=true->mU a.seen z)->eW:=by
    have:∀z y,nl (jh c.ph ρ) z y->y=x->z≠x->((c.ph z).isSome=true->mU a.seen z)->eW:=by
     intro z y aH;induction aH with
     |refl z=>intro h b4;exact absurd h b4
     | @step z b cp he _ bU=>intro ae cK gH;obtain⟨_,dE,w',la,_,_⟩:=id he;have ag:=gH (by simp[la]);obtain⟨g1,g2⟩:=bD z ag (by simp[mU,tg]) b he;exact bU ae g1 g2
    exact fun z bf=>this z x bf rfl
   exact(key _ aJ (a6 w hw).1 (a6 w hw).2).elim
end
end Go.Pv
