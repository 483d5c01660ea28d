/- Classes of variables, as the program keeps them: what its functions compute, and what it means. -/
import Derived.Deep.LoopGhost
import Derived.Test.YtohaalphocaebaaGreatProg
import Derived.Test.YtohaalphocaebaaGreatE1
set_option linter.all false
set_option maxHeartbeats 4000000
set_option maxRecDepth 4000
open Array renaming getElem?_toList->uO
open BitVec renaming ofInt->mr
open Bool renaming and_eq_true->cr,false_eq_true->gZ,not_eq_true'->pQ,or_eq_true->k6
open Decidable renaming not_not->ave
open Go renaming Program->cJ,TypeId->ha
open Go.IntKind renaming bits->oh,i64->nD,signed->r3,u64->hF,wrap->tz
open Go.IntWalk renaming i64_in->mT
open Go.Op renaming bytesLess->hL
open Go.Proofs.Tryz renaming prog->ax
open Go.Region renaming wanted->pR
open Go.Result renaming andThen_ok->fT
open Go.Sem renaming run_bind->fO,run_pure->gF
open Go.Value renaming cells->pS
open List renaming all_eq_true->fy,cons_append->bZ,drop_eq_getElem_cons->k8,getElem?_eq_getElem->bY,getElem?_eq_none->pT,getElem?_eq_some_iff->eS,length_append->o0,length_cons->oj,length_map->r5,map_cons->ht,map_nil->oo,mem_append->iz,mem_cons->e7,mem_cons_of_mem->o1,mem_filter->iL,mem_map->hG,mem_of_getElem?->dP,nil_append->b4,pairwise_cons->mU,pairwise_iff_getElem->o2
open List.Nodup renaming length_le_of_subset->Fx
open List.cons renaming injEq->zK
open Nat renaming le_refl->eu,le_trans->gS,strongRecOn->qA
open Ne renaming symm->lF
open Option renaming bind_some->ij,getD_none->kc,getD_some->jo,isSome_iff_exists->fE,isSome_none->jG,map_eq_some_iff->gm,map_some->oq
open Option.some renaming inj->eH,injEq->dE
open Prod.mk renaming injEq->jU
open _root_ renaming False->eB,UInt8->c0,beq_iff_eq->dQ,congrArg->eP,decide_eq_false_iff_not->gn,decide_eq_true_eq->en
namespace Go.Pv
section
open Go Go.RowKit
def ak6(A:dm)(s ah:cR)(rm:Option aM):Prop:=(∀k,(look k ah.b).isSome->(look k s.b).isSome\/rm=some k)/\(∀k,(look k ah.e).isSome->(look k s.e).isSome\/rm=some k)/\(∀k,(look k s.b).isSome->(look k ah.b).isSome)/\(∀k,(look k s.e).isSome->(look k ah.e).isSome)/\
 (∀k,rm=some k->(∃j,k= .obj j)/\A.F k/\A.b k=none/\A.e k=none/\((look k ah.b).isSome\/(look k ah.e).isSome))
def abe(P:cJ)(n:Nat)(args:List ak)(A:dm)(d:Option Nat)(x:la):Prop:=
 ∃s ah r rm,(∀k cs,look k s.b=some cs->A.b k=some cs/\aN (inObs s) cs)/\(∀k o,look k s.e=some o->A.e k=some o/\eg (inObs s) o)/\iV s/\iV ah/\ak6 A s ah rm/\aN (inObs s) args/\
  bI P n args s (fun eQ dO=>eQ=r/\dO=ah)/\x=⟨d,r,ah.b,ah.e,rm⟩
def abf(P:cJ)(n0 n:Nat)(args:List ak)(A:dm)(d:Option Nat)(x:la):Prop:=
 ∃cN r,d=some cN/\(A.F (.loc (n0+cN))/\A.b (.loc (n0+cN))=none/\A.e (.loc (n0+cN))=none)/\aN (fun _=>eB) args/\
  JE P n (n0+cN) args ⟨[],[]⟩ (fun eQ dO=>eQ=r/\dO=⟨[],[]⟩)/\x=⟨d,r,[],[],some (.loc (n0+cN))⟩
def yM:ak->Bool
 | .ptr (.loc _) _=>true
 | .eptr _=>true
 |_=>false
def gg.isB:gg->Bool
 | .loadB _ _ _=>true
 | .mgetB _ _ _ _ _=>true
 |_=>false
def gg.ptrOf(t:Nat->ak):gg->ak
 | .load _ _ x=>dC t x
 | .loadB _ _ x=>dC t x
 |_=>.junk
def eC(P:cJ)(q:Bool)(n0:Nat):eo->dm->la->Prop
 | .s (.v d i),A,x=> ∃c p,qz A.t A.b A.e i=some (c,p)/\c/\(i.isLoad=true->i.isB=true\/q=true\/yM (i.ptrOf A.t)=true)/\x=⟨some d,p,[],[],none⟩
 | .s (.box d none v),A,x=>(A.F (.loc (n0+d))/\A.b (.loc (n0+d))=none/\A.e (.loc (n0+d))=none)/\eR (dC A.t v)=true/\x=⟨some d,.ptr (.loc (n0+d)) 0,[(.loc (n0+d),cells (dC A.t v))],[],some (.loc (n0+d))⟩
 | .s (.alloc d none z),A,x=>(A.F (.loc (n0+d))/\A.b (.loc (n0+d))=none/\A.e (.loc (n0+d))=none)/\x=⟨some d,.ptr (.loc (n0+d)) 0,[(.loc (n0+d),cells z)],[],some (.loc (n0+d))⟩
 | .s (.store sz u v),A,x=> ∃k off cs,dC A.t u= .ptr k off/\A.b k=some cs/\(ie cs=true/\eR (dC A.t v)=true/\(cells (dC A.t v)).length=sz/\off+sz<=cs.length)/\x=⟨none,.junk,[(k,oQ cs off (cells (dC A.t v)))],[],none⟩
 | .s (.bsl d sz el xs),A,x=>(A.F (.loc (n0+d))/\A.b (.loc (n0+d))=none/\A.e (.loc (n0+d))=none)/\tH sz (xs.map (dC A.t))/\x=⟨some d,.slice sz (.own (.loc (n0+d))) (xs.map (dC A.t)),[],[(.loc (n0+d),⟨xs.length,el,sz,none⟩)],some (.loc (n0+d))⟩
 | .s (.app d sz el u v),A,x=> ∃tag xs lA ys,dC A.t u= .slice sz tag xs/\dC A.t v= .slice sz lA ys/\
   ((∃k o,tag= .own k/\A.e k=some o/\(o.xs=none/\o.n=xs.length/\o.el=el/\o.sz=sz/\xs.length+ys.length<=lim)/\x=⟨some d,.slice sz (.own k) (xs++ys),[],[(k,⟨xs.length+ys.length,el,sz,none⟩)],none⟩)\/
    (tag= .nil/\ys.length<=lim/\(A.F (.loc (n0+d))/\A.b (.loc (n0+d))=none/\A.e (.loc (n0+d))=none)/\x=⟨some d,.slice sz (.own (.loc (n0+d))) ys,[],[(.loc (n0+d),⟨ys.length,el,sz,none⟩)],some (.loc (n0+d))⟩))
 | .s (.appm d _ sz el u v),A,x=> ∃k n xs lA ys,dC A.t u= .row sz k n/\dC A.t v= .slice sz lA ys/\A.e k=some ⟨n,el,sz,some xs⟩/\xs.length+ys.length<=lim/\x=⟨some d,.row sz k (xs.length+ys.length),[],[(k,⟨xs.length+ys.length,el,sz,some (xs++ys)⟩)],none⟩
 | .s (.storeE sz u v),A,x=> ∃k n i f el dH xs q,dC A.t u= .rptr dH k n i f/\A.e k=some ⟨n,el,dH,some xs⟩/\xs[i]? =some q/\(eR q=true/\eR (dC A.t v)=true/\(cells (dC A.t v)).length=sz/\f+sz<=(cells q).length/\0<sz)/\x=⟨none,.junk,[],[(k,⟨n,el,dH,some (xs.set i (qw q f (cells (dC A.t v))))⟩)],none⟩
 | .s (.mkmap d (some m)),A,x=>(A.F (.obj m)/\A.b (.obj m)=none/\A.e (.obj m)=none)/\x=⟨some d,.gmap (.obj m),[(.obj m,[.hdm 0 []])],[],some (.obj m)⟩
 | .s (.mput ch u k v),A,x=> ∃m cs cs',dC A.t u= .gmap m/\A.b m=some cs/\pH ch (dC A.t k) (dC A.t v) cs=some cs'/\x=⟨none,.junk,[(m,cs')],[],none⟩
 | .call d f xs,A,x=> ∃n dt,dC A.t f= .func n dt/\((abe P n (c7 (xs.map (dC A.t)++dt)) A d x/\(q=true->x.bw=[]/\x.ew=[]))\/abf P n0 n (c7 (xs.map (dC A.t)++dt)) A d x)
 |_,_,_=>eB
inductive Co where
 |v|l|n|s|w|a|c|m|r|k
 deriving DecidableEq
def eo.mode:eo->Co
 | .s (.v _ (.loadB _ _ _))=>.m
 | .s (.v _ (.mgetB _ _ _ _ _))=>.m
 | .s (.v _ i)=>if i.isLoad then .l else .v
 | .s (.storeE _ _ _)=>.r
 | .s (.box _ _ _)=>.n
 | .s (.alloc _ _ _)=>.n
 | .s (.store _ _ _)=>.w
 | .s (.bsl _ _ _ _)=>.s
 | .s (.app _ _ _ _ _)=>.a
 | .s (.bslm _ _ _ _ _)=>.w
 | .s (.mks _ _ _ _ _ _)=>.w
 | .s (.appm _ _ _ _ _ _)=>.r
 | .s (.mkmap _ _)=>.k
 | .s (.mput _ _ _ _)=>.w
 | .s (.range _ _ _)=>.w
 | .call _ _ _=>.c
 | .next _ _=>.w
structure JQ (q:Bool) (n0:Nat) (m:Co) (dst:Option Nat) (A:dm) (x:la):Prop where
 d:x.d=dst
 b:∀k,(look k x.bw).isSome->(m= .n/\∃d,dst=some d/\k= .loc (n0+d)/\A.b k=none/\A.e k=none)\/m= .w\/(m= .c/\(∃j,k= .obj j)/\q=false)\/(m= .k/\(∃j,k= .obj j)/\A.b k=none/\A.e k=none)
 e:∀k,(look k x.ew).isSome->(m= .s/\∃d,dst=some d/\k= .loc (n0+d)/\A.b k=none/\A.e k=none)\/(m= .a/\(A.e k≠none\/ ∃d,dst=some d/\k= .loc (n0+d)/\A.b k=none/\A.e k=none))\/(m= .c/\(∃j,k= .obj j)/\q=false)\/(m= .r/\∃o,A.e k=some o/\o.xs≠none)
 r:∀k,x.rm=some k->(∃d,dst=some d/\k= .loc (n0+d))\/((m= .c\/m= .k)/\(∃j,k= .obj j)/\((look k x.bw).isSome\/(look k x.ew).isSome))
 ex:m= .a->∀k o,(look k x.ew).isSome->A.e k=some o->o.xs=none
 xn:m= .a\/m= .s->∀k o,look k x.ew=some o->o.xs=none
theorem uv{α:Type}{k bH:aM}{x:α}(h:(look k [(bH,x)]).isSome):k=bH:=by
 simp only[look]at h;split at h
 ·rename_i e;exact e.symm
 ·cases h
theorem M8{k bH:aM}{n el sz:Nat}{o:fQ}(h:look k [(bH,(⟨n,el,sz,none⟩:fQ))]=some o):o.xs=none:=by
 simp only[look]at h;split at h
 ·cases h;rfl
 ·cases h
theorem ZY{P:cJ}{q:Bool}{n0:Nat}{i:eo}{A:dm}{x:la}(h:eC P q n0 i A x):JQ q n0 i.mode i.dst A x:=by
 cases i with
 |s i=>
  cases i with
  |v d i=>simp only[eC]at h;obtain⟨c,p,_,_,_,rfl⟩:=h;exact⟨rfl,fun k ae=>by simp[look]at ae,fun k ae=>by simp[look]at ae,fun k ae=>by simp at ae,fun _ k o ae=>by simp[look]at ae,fun _ k o ae=>by simp[look]at ae⟩
  |box d key v=>
   cases key with
   |some m=>simp only[eC]at h
   |none=>simp only[eC]at h;obtain⟨⟨_,U,ao⟩,_,rfl⟩:=h;exact⟨rfl,fun k ae=>by obtain rfl:=uv ae;exact .inl ⟨rfl,d,rfl,rfl,U,ao⟩,fun k ae=>by simp[look]at ae,fun k ae=>by simp at ae;exact .inl ⟨d,rfl,ae.symm⟩,fun _ k o ae=>by simp[look]at ae,fun _ k o ae=>by simp[look]at ae⟩
  |alloc d key z=>
   cases key with
   |some m=>simp only[eC]at h
   |none=>simp only[eC]at h;obtain⟨⟨_,U,ao⟩,rfl⟩:=h;exact⟨rfl,fun k ae=>by obtain rfl:=uv ae;exact .inl ⟨rfl,d,rfl,rfl,U,ao⟩,fun k ae=>by simp[look]at ae,fun k ae=>by simp at ae;exact .inl ⟨d,rfl,ae.symm⟩,fun _ k o ae=>by simp[look]at ae,fun _ k o ae=>by simp[look]at ae⟩
  |store sz u v=>simp only[eC]at h;obtain⟨k,off,cs,_,_,_,rfl⟩:=h;exact⟨rfl,fun k ae=>.inr (.inl rfl),fun k ae=>by simp[look]at ae,fun k ae=>by simp at ae,fun _ k o ae=>by simp[look]at ae,fun _ k o ae=>by simp[look]at ae⟩
  |bsl d sz el xs=>simp only[eC]at h;obtain⟨⟨_,U,ao⟩,_,rfl⟩:=h;exact⟨rfl,fun k ae=>by simp[look]at ae,fun k ae=>by obtain rfl:=uv ae;exact .inl ⟨rfl,d,rfl,rfl,U,ao⟩,fun k ae=>by simp at ae;exact .inl ⟨d,rfl,ae.symm⟩,fun e=>by simp[eo.mode]at e,fun _ k o ae=>M8 ae⟩
  |app d sz el u v=>
   simp only[eC]at h;obtain⟨tag,xs,lA,ys,_,_,h⟩:=h;rcases h with⟨k,o,_,J,⟨hc,_⟩,rfl⟩|⟨_,_,⟨_,U,ao⟩,rfl⟩
   ·exact⟨rfl,fun k ae=>by simp[look]at ae,fun k ae=>by obtain rfl:=uv ae;exact .inr (.inl ⟨rfl,.inl (by rw[J];simp)⟩),fun k ae=>by simp at ae,fun _ bH o' ae aw=>by obtain rfl:=uv ae;rw[J]at aw;cases aw;exact hc,fun _ k o ae=>M8 ae⟩
   ·exact⟨rfl,fun k ae=>by simp[look]at ae,fun k ae=>by obtain rfl:=uv ae;exact .inr (.inl ⟨rfl,.inr ⟨d,rfl,rfl,U,ao⟩⟩),fun k ae=>by simp at ae;exact .inl ⟨d,rfl,ae.symm⟩,fun _ bH o' ae aw=>(by obtain rfl:=uv ae;rw[ao]at aw;cases aw),fun _ k o ae=>M8 ae⟩
  |bslm d key sz el xs=>simp only[eC]at h
  |mks d key sz el z x=>simp only[eC]at h
  |appm d key sz el u v=>simp only[eC]at h;obtain⟨k,n,xs,lA,ys,_,_,J,_,rfl⟩:=h;exact⟨rfl,fun k ae=>by simp[look]at ae,fun k ae=>by obtain rfl:=uv ae;exact .inr (.inr (.inr ⟨rfl,_,J,Ψ⟩)),fun k ae=>by simp at ae,fun e=>by simp[eo.mode]at e,fun e=>by simp[eo.mode]at e⟩
  |storeE sz u v=>simp only[eC]at h;obtain⟨k,n,i,f,el,dH,xs,q,_,J,_,_,rfl⟩:=h;exact⟨rfl,fun k ae=>by simp[look]at ae,fun k ae=>by obtain rfl:=uv ae;exact .inr (.inr (.inr ⟨rfl,_,J,Ψ⟩)),fun k ae=>by simp at ae,fun e=>by simp[eo.mode]at e,fun e=>by simp[eo.mode]at e⟩
  |mkmap d key=>
   cases key with
   |none=>simp only[eC]at h
   |some m=>simp only[eC]at h;obtain⟨⟨_,U,ao⟩,rfl⟩:=h;exact⟨rfl,fun k ae=>by obtain rfl:=uv ae;exact .inr (.inr (.inr ⟨rfl,⟨m,rfl⟩,U,ao⟩)),fun k ae=>by simp[look]at ae,fun k ae=>by simp at ae;subst ae;exact .inr ⟨.inr rfl,⟨m,rfl⟩,.inl (by simp[look])⟩,fun e=>by simp[eo.mode]at e,fun e=>by simp[eo.mode]at e⟩
  |mput ch x k v=>simp only[eC]at h;obtain⟨m,cs,cs',_,_,_,rfl⟩:=h;exact⟨rfl,fun k ae=>.inr (.inl rfl),fun k ae=>by simp[look]at ae,fun k ae=>by simp at ae,fun e=>by simp[eo.mode]at e,fun e=>by simp[eo.mode]at e⟩
  |range d key x=>simp only[eC]at h
 |next d x=>simp only[eC]at h
 |call d f xs=>
  simp only[eC]at h;obtain⟨n,dt,_,h⟩:=h;rcases h with⟨⟨s,ah,r,rm,_,_,_,aw,Vl,_,_,rfl⟩,bt⟩|⟨cN,r,rfl,_,_,_,rfl⟩;rotate_left
  ·exact⟨rfl,fun k ae=>by simp[look]at ae,fun k ae=>by simp[look]at ae,fun k ae=>by simp at ae;exact .inl ⟨cN,rfl,ae.symm⟩,fun _ k o ae=>by simp[look]at ae,fun _ k o ae=>by simp[look]at ae⟩
  refine⟨rfl,fun k ae=>.inr (.inr (.inl ⟨rfl,?_,?_⟩)),fun k ae=>.inr (.inr (.inl ⟨rfl,?_,?_⟩)),fun k ae=>.inr ⟨.inl rfl,(Vl.2.2.2.2 k ae).1,(Vl.2.2.2.2 k ae).2.2.2.2⟩,fun e=>by simp[eo.mode]at e,fun e=>by simp[eo.mode]at e⟩
  ·cases k with
   |loc m=>rw[aw.1 m]at ae;cases ae
   |obj m=>exact⟨m,rfl⟩
  ·cases q with
   |false=>rfl
   |true=>rw[(bt rfl).1]at ae;simp[look]at ae
  ·cases k with
   |loc m=>rw[aw.2 m]at ae;cases ae
   |obj m=>exact⟨m,rfl⟩
  ·cases q with
   |false=>rfl
   |true=>rw[(bt rfl).2]at ae;simp[look]at ae
theorem P8{P:cJ}{q:Bool}{n0:Nat}{i:eo}{A gy:dm}{x:la}(h:eC P q n0 i A x)(aH:re i.looks A.t gy.t)
  (av:i.mode= .l->∀k,(q=true\/ ∃m,k= .loc m)->A.b k≠none->gy.b k=A.b k) (Vc:i.mode= .m->∀k,A.b k≠none->gy.b k=A.b k)
  (lM:i.mode= .l->q=true->∀k o,A.e k=some o->o.xs≠none->gy.e k=some o)
  (au:∀d,i.dst=some d->(i.mode= .n\/i.mode= .s\/i.mode= .a\/i.mode= .c)->(A.F (.loc (n0+d))/\A.b (.loc (n0+d))=none/\A.e (.loc (n0+d))=none)->(gy.F (.loc (n0+d))/\gy.b (.loc (n0+d))=none/\gy.e (.loc (n0+d))=none))
  (bm:i.mode= .a->∀k o,A.e k=some o->gy.e k=some o) (hw:i.mode= .w->∀k,gy.b k=A.b k) (ajg:i.mode= .k->∀m,(A.F (.obj m)/\A.b (.obj m)=none/\A.e (.obj m)=none)->(gy.F (.obj m)/\gy.b (.obj m)=none/\gy.e (.obj m)=none)) (DF:i.mode= .r->∀k o,A.e k=some o->o.xs≠none->gy.e k=some o)
  (ar:i.mode= .c->∀m,gy.b (.obj m)=A.b (.obj m)/\gy.e (.obj m)=A.e (.obj m)/\(A.F (.obj m)->gy.F (.obj m))):eC P q n0 i gy x:=by
 cases i with
 |s i=>
  cases i with
  |v d i=>
   simp only[eC]at h⊢;obtain⟨c,p,J,U,ao,a6⟩:=h;by_cases iR:∃agg sz y,i= .loadB agg sz y
   ·obtain⟨agg,sz,y,rfl⟩:=iR;simp only[eo.looks,ev.looks,gg.looks]at aH;have vl:=gJ aH;refine⟨c,p,?_,U,fun _=>.inl rfl,a6⟩;rw[<-J];simp only[qz,<-vl];have hm:=Vc (by simp[eo.mode]);simp only[qz]at J;cases bD:dC A.t y<;>simp only[sV];rename_i key off;rw[bD]at J;simp only[sV]at J;cases ab:A.b key with
    |none=>simp[ab]at J
    |some cs=>have:gy.b key=A.b key:=hm key (by rw[ab];simp);rw[this,ab]
   by_cases GQ:∃ch zero ok y z,i= .mgetB ch zero ok y z
   ·obtain⟨ch,zero,ok,y,z,rfl⟩:=GQ;simp only[eo.looks,ev.looks,gg.looks]at aH;obtain⟨t1,t2⟩:=kL aH;refine⟨c,p,?_,U,fun _=>.inl rfl,a6⟩;simp only[qz]at J⊢;rw[<-gJ t1,<-gJ t2];exact Xd (Vc (by simp[eo.mode])) J
   replace ao:i.isLoad=true->q=true\/yM (i.ptrOf A.t)=true:=fun oF=>(ao oF).resolve_left (fun ab=>by cases i<;>simp[gg.isB]at ab;exact iR ⟨_,_,_,rfl⟩;exact GQ ⟨_,_,_,_,_,rfl⟩);have ait:i.isLoad=true->(eo.s (.v d i)).mode= .l:=by intro oF;cases i<;>simp only[gg.isLoad]at oF<;>first|(cases oF;done)|(simp[eo.mode,gg.isLoad];done)|exact absurd ⟨_,_,_,rfl⟩ iR|exact absurd ⟨_,_,_,_,_,rfl⟩ GQ
   by_cases oF:i.isLoad=true
   ·have bt:∀(bD:yM (i.ptrOf A.t)=false),∀k,A.b k≠none->gy.b k=A.b k:=fun bD k ae=>av (ait oF) k (.inl ((ao oF).resolve_right (by rw[bD];simp))) ae;cases i<;>simp only[gg.isLoad]at oF<;>try(cases oF;done)
    case mget ch zero ok y z=>simp only[eo.looks,ev.looks,gg.looks]at aH;obtain⟨t1,t2⟩:=kL aH;refine⟨c,p,?_,U,fun _=>.inr (ao rfl),a6⟩;simp only[qz]at J⊢;rw[<-gJ t1,<-gJ t2];exact Xd (bt rfl) J
    case ment y=>simp only[eo.looks,ev.looks,gg.looks]at aH;refine⟨c,p,?_,U,fun _=>.inr (ao rfl),a6⟩;simp only[qz]at J⊢;rw[<-gJ aH];exact akB (bt rfl) J
    case mlen y=>simp only[eo.looks,ev.looks,gg.looks]at aH;refine⟨c,p,?_,U,fun _=>.inr (ao rfl),a6⟩;simp only[qz]at J⊢;rw[<-gJ aH];exact akW (bt rfl) J
    case loadB agg sz y=>exact absurd ⟨_,_,_,rfl⟩ iR
    case mgetB=>exact absurd ⟨_,_,_,_,_,rfl⟩ GQ
    rename_i agg sz y;simp only[eo.looks,ev.looks,gg.looks]at aH;have vl:=gJ aH;refine⟨c,p,?_,U,fun _=>.inr (by have:=ao rfl;simpa only[gg.ptrOf,<-vl]using this),a6⟩;rw[<-J];simp only[qz,<-vl];have hm:=av (by simp[eo.mode,gg.isLoad]);simp only[qz]at J;have tS:=ao rfl;simp only[gg.ptrOf]at tS;cases bD:dC A.t y<;>simp only[sV]
    ·rename_i key off;rw[bD]at J tS;simp only[sV]at J;cases ab:A.b key with
     |none=>simp[ab]at J
     |some cs=>have:gy.b key=A.b key:=hm key (by rcases tS with h|h;exact .inl h;cases key;exact .inr ⟨_,rfl⟩;simp[yM]at h) (by rw[ab];simp);rw[this,ab]
    ·rename_i dH key n i f;rw[bD]at J tS;simp only[sV]at J;have aiP:q=true:=tS.resolve_right (by simp[yM]);unfold zn at J;split at J
     ·rename_i n' el jE xs he;rw[he,lM (by simp[eo.mode,gg.isLoad]) aiP key _ he Ψ]
     ·cases J
   ·have oF:i.isLoad=false:=by simpa using oF
    refine⟨c,p,?_,U,(fun e=>by rw[oF]at e;cases e),a6⟩;rw[<-J];exact(apF (by simpa only[eo.looks,ev.looks]using aH) oF).symm
  |box d key v=>
   cases key with
   |some m=>simp only[eC]at h
   |none=>simp only[eC,eo.looks,ev.looks]at h aH⊢;obtain⟨J,U,ao⟩:=h;rw[<-gJ aH];exact⟨au d rfl (.inl rfl) J,U,ao⟩
  |alloc d key z=>
   cases key with
   |some m=>simp only[eC]at h
   |none=>simp only[eC]at h⊢;exact⟨au d rfl (.inl rfl) h.1,h.2⟩
  |store sz u v=>simp only[eC,eo.looks,ev.looks]at h aH⊢;obtain⟨J,U⟩:=kL aH;rw[<-gJ J,<-gJ U];obtain⟨k,off,cs,g1,g2,g3,g4⟩:=h;exact⟨k,off,cs,g1,by rw[hw rfl];exact g2,g3,g4⟩
  |bsl d sz el xs=>simp only[eC,eo.looks,ev.looks]at h aH⊢;rw[<-H2 aH];exact⟨au d rfl (.inr (.inl rfl)) h.1,h.2⟩
  |app d sz el u v=>
   simp only[eC,eo.looks,ev.looks]at h aH⊢;obtain⟨J,U⟩:=kL aH;rw[<-gJ J,<-gJ U];obtain⟨tag,xs,lA,ys,g1,g2,h⟩:=h;refine⟨tag,xs,lA,ys,g1,g2,?_⟩;rcases h with⟨k,o,aq,aG,bG⟩|⟨aq,aG,bG,di⟩
   ·exact .inl ⟨k,o,aq,bm rfl k o aG,bG⟩
   ·exact .inr ⟨aq,aG,au d rfl (.inr (.inr (.inl rfl))) bG,di⟩
  |bslm d key sz el xs=>simp only[eC]at h
  |mks d key sz el z x=>simp only[eC]at h
  |appm d key sz el u v=>simp only[eC,eo.looks,ev.looks]at h aH⊢;obtain⟨J,U⟩:=kL aH;rw[<-gJ J,<-gJ U];obtain⟨k,n,xs,lA,ys,g1,g2,g3,g4,g5⟩:=h;exact⟨k,n,xs,lA,ys,g1,g2,DF rfl k _ g3 Ψ,g4,g5⟩
  |storeE sz u v=>simp only[eC,eo.looks,ev.looks]at h aH⊢;obtain⟨J,U⟩:=kL aH;rw[<-gJ J,<-gJ U];obtain⟨k,n,i,f,el,dH,xs,q,g1,g2,g3⟩:=h;exact⟨k,n,i,f,el,dH,xs,q,g1,DF rfl k _ g2 Ψ,g3⟩
  |mkmap d key=>
   cases key with
   |none=>simp only[eC]at h
   |some m=>simp only[eC]at h⊢;exact⟨ajg rfl m h.1,h.2⟩
  |mput ch u k v=>simp only[eC,eo.looks,ev.looks]at h aH⊢;obtain⟨t1,t3⟩:=kL aH;obtain⟨t1,t2⟩:=kL t1;obtain⟨m,cs,cs',g1,g2,g3,g4⟩:=h;rw[<-gJ t1,<-gJ t2,<-gJ t3];exact⟨m,cs,cs',g1,by rw[hw rfl];exact g2,g3,g4⟩
  |range d key x=>simp only[eC]at h
 |next d x=>simp only[eC]at h
 |call d f xs=>
  simp only[eC,eo.looks]at h aH⊢;obtain⟨J,U⟩:=kL aH;rw[<-gJ J,<-H2 U];obtain⟨n,dt,g1,h⟩:=h;rcases h with⟨⟨s,ah,r,rm,b0,cu,dg,ku,lg,oA⟩,g3⟩|⟨cN,r,rfl,b0,cu⟩;rotate_left
  ·exact⟨n,dt,g1,.inr ⟨cN,r,rfl,au cN rfl (.inr (.inr (.inr rfl))) b0,cu⟩⟩
  refine⟨n,dt,g1,.inl ⟨⟨s,ah,r,rm,fun k cs ae=>?_,fun k o ae=>?_,dg,ku,⟨lg.1,lg.2.1,lg.2.2.1,lg.2.2.2.1,fun k ae=>?_⟩,oA⟩,g3⟩⟩
  ·cases k with
   |loc m=>rw[dg.1 m]at ae;cases ae
   |obj m=>rw[(ar rfl m).1];exact b0 _ _ ae
  ·cases k with
   |loc m=>rw[dg.2 m]at ae;cases ae
   |obj m=>rw[(ar rfl m).2.1];exact cu _ _ ae
  ·obtain⟨⟨j,rfl⟩,d2,d3,d4,d5⟩:=lg.2.2.2.2 k ae;exact⟨⟨j,rfl⟩,(ar rfl j).2.2 d2,by rw[(ar rfl j).1];exact d3,by rw[(ar rfl j).2.1];exact d4,d5⟩
def lT(d:Option Nat):la:=⟨d,.tuple [],[],[],none⟩
def lb(P:cJ)(q:Bool)(n0:Nat)(g:dc)(A:dm)(x:la):Prop:=
 match g.g with
 |none=>eC P q n0 g.i A x
 |some (s,w)=>match A.t s with
  | .bool b=>(b=w/\eC P q n0 g.i A x)\/(b= !w/\x=lT g.i.dst)
  | .tuple []=>x=lT g.i.dst
  |_=>eB
def ff:Co->Co->Bool
 | .v,_=>true
 |_,.v=>true
 | .l,.l| .l,.n| .l,.s| .l,.a| .l,.c=>true
 | .n,.n| .n,.s| .n,.a| .n,.c=>true
 | .s,.l| .s,.n| .s,.s| .s,.c=>true
 | .a,.l| .a,.n| .a,.s=>true
 | .c,.l| .c,.n| .c,.s=>true
 | .l,.m| .m,.l| .m,.m| .m,.n| .m,.s| .m,.a| .s,.m| .a,.m=>true
 | .l,.k| .m,.k| .n,.k| .s,.k=>true
 | .m,.r| .r,.m| .r,.n| .r,.s| .n,.r| .s,.r| .r,.w| .w,.r=>true
 |_,_=>false
def Ar(g h:dc):Bool:=(match g.i.dst with|some d=> !(h.looks.contains d)&&h.i.dst !=some d|none=>true)&&(match h.i.dst with|some d=> !(g.looks.contains d)|none=>true)&&ff g.i.mode h.i.mode
theorem ZZ(q:Bool)(n0:Nat)(m:Co)(d:Option Nat)(A:dm):JQ q n0 m d A (lT d):=⟨rfl,fun k ae=>by simp[lT,look]at ae,fun k ae=>by simp[lT,look]at ae,fun k ae=>by simp[lT]at ae,fun _ k o ae=>by simp[lT,look]at ae,fun _ k o ae=>by simp[lT,look]at ae⟩
theorem Ps{P:cJ}{q:Bool}{n0:Nat}{g:dc}{A:dm}{x:la}(h:lb P q n0 g A x):JQ q n0 g.i.mode g.i.dst A x:=by
 unfold lb at h;split at h
 ·exact ZY h
 ·split at h
  ·rcases h with⟨_,h⟩|⟨_,rfl⟩
   ·exact ZY h
   ·exact ZZ _ _ _ _ _
  ·subst h;exact ZZ _ _ _ _ _
  ·exact h.elim
theorem tN{A:dm}{x:la}{k:aM}(h:look k x.bw=none):(A.do x).b k=A.b k:=by simp[dm.do,iQ,h]
theorem tO{A:dm}{x:la}{k:aM}(h:look k x.ew=none):(A.do x).e k=A.e k:=by simp[dm.do,iQ,h]
theorem KG{A:dm}{x:la}{k:aM}(h:(A.do x).b k=none):A.b k=none:=by
 simp only[dm.do,iQ]at h;split at h
 ·cases h
 ·exact h
theorem KH{A:dm}{x:la}{k:aM}(h:(A.do x).e k=none):A.e k=none:=by
 simp only[dm.do,iQ]at h;split at h
 ·cases h
 ·exact h
theorem ml{α:Type}{o:Option α}(h:¬o.isSome):o=none:=by cases o<;>simp at h⊢
theorem Qa{P:cJ}{q:Bool}{n0:Nat}{g:dc}{A gy:dm}{x:la}(h:lb P q n0 g A x)(aH:re g.looks A.t gy.t)(hm:eC P q n0 g.i A x->eC P q n0 g.i gy x):lb P q n0 g gy x:=by
 unfold lb at h⊢;cases aX:g.g with
 |none=>simp only[aX]at h⊢;exact hm h
 |some zw=>
  obtain⟨s,w⟩:=zw;have:A.t s=gy.t s:=aH s (by simp[dc.looks,aX]);simp only[aX,this]at h⊢;split at h
  ·rcases h with⟨J,U⟩|h
   ·exact .inl ⟨J,hm U⟩
   ·exact .inr h
  ·exact h
  ·exact h
theorem swap{P:cJ}{q:Bool}{n0:Nat}{g h:dc}(U2:Ar g h=true){A:dm}{x y:la}(ad:lb P q n0 g A x)(aC:lb P q n0 h (A.do x) y):
  lb P q n0 h A y/\lb P q n0 g (A.do y) x/\x.apart y:=by
 simp only[Ar,cr]at U2;obtain⟨⟨fs,eV⟩,hm⟩:=U2;have zz:=Ps ad;have cK:∀d cn,g.i.dst=some d->h.i.dst=some cn->d≠cn:=by intro d cn aq aG e;simp only[aq,cr,bne_iff_ne]at fs;exact fs.2 (by rw[aG,e])
 have GS:re h.looks (A.do x).t A.t:=by intro i hi;simp only[dm.do];rw[if_neg];intro e;rw[zz.d]at e;simp only[e,cr,pQ,List.contains_eq_mem,gn]at fs;exact fs.1 hi
 have rF:∀k,(look k x.bw).isSome->_:=zz.b;have hle:∀k,(look k x.ew).isSome->_:=zz.e;have Wt:lb P q n0 h A y:=by
  refine Qa aC GS fun hR=>P8 hR (fun i hi=>GS i (by simp[dc.looks,hi])) (fun e k ae ab=>?_) (fun e k ab=>?_) (fun e bt k o aw hc=>?_) (fun d aF wR l5=>?_) (fun e k o aw=>?_) (fun e k=>?_) (fun e m l5=>⟨l5.1.1,KG l5.2.1,KH l5.2.2⟩) (fun e k o aw hc=>?_) (fun e m=>?_)
  ·rw[tN (ml fun ag=>?_)];rcases rF k ag with⟨aq,_⟩|aq|⟨aq,⟨j,aG⟩,bG⟩|⟨aq,_⟩;rotate_left 3
   ·rw[e,aq]at hm;simp[ff]at hm
   ·rw[e,aq]at hm;simp[ff]at hm
   ·rw[e,aq]at hm;simp[ff]at hm
   ·rcases ae with ae|⟨m,ae⟩
    ·rw[ae]at bG;cases bG
    ·rw[ae]at aG;cases aG
  ·rw[tN (ml fun ag=>?_)];rcases rF k ag with⟨aq,_⟩|aq|⟨aq,_⟩|⟨aq,_⟩<;>(rw[e,aq]at hm;simp[ff]at hm)
  ·rw[e]at hm;cases hW:look k x.ew with
   |none=>rw[tO hW]at aw;exact aw
   |some o'=>
    exfalso;have Mb:(A.do x).e k=some o':=by simp[dm.do,iQ,hW]
    rw[Mb]at aw;cases aw;rcases hle k (by simp[hW])with⟨aq,_⟩|⟨aq,_⟩|⟨aq,_,bG⟩|⟨aq,_⟩
    ·exact hc (zz.xn (.inr aq) k _ hW)
    ·exact hc (zz.xn (.inl aq) k _ hW)
    ·rw[bt]at bG;cases bG
    ·rw[aq]at hm;simp[ff]at hm
  ·exact⟨l5.1.1,KG l5.2.1,KH l5.2.2⟩
  ·rw[tO (ml fun ag=>?_)]at aw
   ·exact aw
   ·rw[e]at hm;rcases hle k ag with⟨aq,_⟩|⟨aq,_⟩|⟨aq,_⟩|⟨aq,_⟩<;>(rw[aq]at hm;simp[ff]at hm)
  ·rw[tN (ml fun ag=>?_)];rw[e]at hm;rcases rF k ag with⟨aq,_⟩|aq|⟨aq,_⟩|⟨aq,_⟩<;>(rw[aq]at hm;simp[ff]at hm)
  ·rw[e]at hm;cases hW:look k x.ew with
   |none=>rw[tO hW]at aw;exact aw
   |some o'=>
    exfalso;have Mb:(A.do x).e k=some o':=by simp[dm.do,iQ,hW]
    rw[Mb]at aw;cases aw;rcases hle k (by simp[hW])with⟨aq,_⟩|⟨aq,_⟩|⟨aq,_⟩|⟨aq,_⟩
    ·exact hc (zz.xn (.inr aq) k _ hW)
    ·rw[aq]at hm;simp[ff]at hm
    ·rw[aq]at hm;simp[ff]at hm
    ·rw[aq]at hm;simp[ff]at hm
  ·rw[e]at hm;refine⟨?_,?_,fun gB=>gB.1⟩
   ·rw[tN (ml fun ag=>?_)];rcases rF _ ag with⟨aq,d,_,aG,_⟩|aq|⟨aq,_⟩|⟨aq,_⟩;rotate_left 3
    ·rw[aq]at hm;simp[ff]at hm
    ·cases aG
    ·rw[aq]at hm;simp[ff]at hm
    ·rw[aq]at hm;simp[ff]at hm
   ·rw[tO (ml fun ag=>?_)];rcases hle _ ag with⟨aq,d,_,aG,_⟩|⟨aq,_⟩|⟨aq,_⟩|⟨aq,_⟩
    ·cases aG
    ·rw[aq]at hm;simp[ff]at hm
    ·rw[aq]at hm;simp[ff]at hm
    ·rw[aq]at hm;simp[ff]at hm
 have ty:=Ps Wt;have UF:re g.looks A.t (A.do y).t:=by intro i hi;simp only[dm.do];rw[if_neg];intro e;rw[ty.d]at e;simp only[e,pQ,List.contains_eq_mem,gn]at eV;exact eV hi
 refine⟨Wt,?_,?_⟩
 ·refine Qa ad UF fun hR=>P8 hR (fun i hi=>UF i (by simp[dc.looks,hi])) (fun e k ae ab=>?_) (fun e k ab=>?_) (fun e bt k o aw hc=>?_) (fun d aF wR l5=>?_) (fun e k o aw=>?_) (fun e k=>?_) (fun e m l5=>?_) (fun e k o aw hc=>?_) (fun e m=>?_)
  ·refine tN (ml fun ag=>?_);rcases ty.b k ag with⟨aq,d,_,_,aG,_⟩|aq|⟨aq,⟨j,aG⟩,bG⟩|⟨_,_,aG,_⟩;rotate_left 3
   ·exact ab aG
   ·exact ab aG
   ·rw[e,aq]at hm;simp[ff]at hm
   ·rcases ae with ae|⟨m,ae⟩
    ·rw[ae]at bG;cases bG
    ·rw[ae]at aG;cases aG
  ·refine tN (ml fun ag=>?_);rcases ty.b k ag with⟨aq,d,_,_,aG,_⟩|aq|⟨aq,_⟩|⟨_,_,aG,_⟩;rotate_left 3
   ·exact ab aG
   ·exact ab aG
   ·rw[e,aq]at hm;simp[ff]at hm
   ·rw[e,aq]at hm;simp[ff]at hm
  ·rw[tO (ml fun ag=>?_)]
   ·exact aw
   ·rcases ty.e k ag with⟨aq,d,_,_,_,aG⟩|⟨aq,aG⟩|⟨aq,_,bG⟩|⟨aq,_⟩
    ·rw[aG]at aw;cases aw
    ·exact hc (ty.ex aq k o ag aw)
    ·rw[bt]at bG;cases bG
    ·rw[e,aq]at hm;simp[ff]at hm
  ·refine⟨⟨l5.1,fun rq=>?_⟩,?_,?_⟩
   ·rcases ty.r _ rq with⟨cn,aq,aG⟩|⟨_,⟨j,aG⟩,_⟩
    ·simp only[aM.loc.injEq]at aG;exact cK d cn aF aq Ω
    ·cases aG
   ·rw[tN (ml fun ag=>?_)]
    ·exact l5.2.1
    ·rcases ty.b _ ag with⟨aq,cn,aG,bG,_⟩|aq|⟨aq,⟨j,aG⟩,_⟩|⟨aq,⟨j,aG⟩,_⟩;rotate_left 3
     ·cases aG
     ·simp only[aM.loc.injEq]at bG;exact cK d cn aF aG Ω
     ·rcases wR with aG|aG|aG|aG<;>(rw[aq,aG]at hm;simp[ff]at hm)
     ·cases aG
   ·rw[tO (ml fun ag=>?_)]
    ·exact l5.2.2
    ·rcases ty.e _ ag with⟨aq,cn,aG,bG,_⟩|⟨aq,aG⟩|⟨aq,⟨j,aG⟩,_⟩|⟨aq,o,aG,_⟩
     ·simp only[aM.loc.injEq]at bG;exact cK d cn aF aG Ω
     ·rcases aG with aG|⟨cn,aG,bG,_⟩
      ·exact aG l5.2.2
      ·simp only[aM.loc.injEq]at bG;exact cK d cn aF aG Ω
     ·cases aG
     ·rw[l5.2.2]at aG;cases aG
  ·rw[tO (ml fun ag=>?_)]
   ·exact aw
   ·rw[e]at hm;rcases ty.e k ag with⟨aq,d,_,_,_,aG⟩|⟨aq,_⟩|⟨aq,_⟩|⟨aq,_⟩
    ·rw[aG]at aw;cases aw
    ·rw[aq]at hm;simp[ff]at hm
    ·rw[aq]at hm;simp[ff]at hm
    ·rw[aq]at hm;simp[ff]at hm
  ·refine tN (ml fun ag=>?_);rw[e]at hm;rcases ty.b k ag with⟨aq,_⟩|aq|⟨aq,_⟩|⟨aq,_⟩<;>(rw[aq]at hm;simp[ff]at hm)
  ·rw[e]at hm;refine⟨⟨l5.1,fun rq=>?_⟩,?_,?_⟩
   ·rcases ty.r _ rq with⟨cn,aq,aG⟩|⟨aq|aq,_⟩
    ·cases aG
    ·rw[aq]at hm;simp[ff]at hm
    ·rw[aq]at hm;simp[ff]at hm
   ·rw[tN (ml fun ag=>?_)]
    ·exact l5.2.1
    ·rcases ty.b _ ag with⟨aq,_⟩|aq|⟨aq,_⟩|⟨aq,_⟩<;>(rw[aq]at hm;simp[ff]at hm)
   ·rw[tO (ml fun ag=>?_)]
    ·exact l5.2.2
    ·rcases ty.e _ ag with⟨aq,_⟩|⟨aq,_⟩|⟨aq,_⟩|⟨aq,o,aG,_⟩
     ·rw[aq]at hm;simp[ff]at hm
     ·rw[aq]at hm;simp[ff]at hm
     ·rw[aq]at hm;simp[ff]at hm
     ·rw[l5.2.2]at aG;cases aG
  ·rw[tO (ml fun ag=>?_)]
   ·exact aw
   ·rw[e]at hm;rcases ty.e k ag with⟨aq,d,_,_,_,aG⟩|⟨aq,_⟩|⟨aq,_⟩|⟨aq,_⟩
    ·rw[aG]at aw;cases aw
    ·rw[aq]at hm;simp[ff]at hm
    ·rw[aq]at hm;simp[ff]at hm
    ·rw[aq]at hm;simp[ff]at hm
  ·rw[e]at hm;refine⟨?_,?_,fun gB=>⟨gB,fun rq=>?_⟩⟩;rotate_left 2
   ·rcases ty.r _ rq with⟨cn,_,aG⟩|⟨aG|aG,_⟩
    ·cases aG
    ·rw[aG]at hm;simp[ff]at hm
    ·rw[aG]at hm;simp[ff]at hm
   ·refine tN (ml fun ag=>?_);rcases ty.b _ ag with⟨aq,d,_,aG,_⟩|aq|⟨aq,_⟩|⟨aq,_⟩;rotate_left 3
    ·rw[aq]at hm;simp[ff]at hm
    ·cases aG
    ·rw[aq]at hm;simp[ff]at hm
    ·rw[aq]at hm;simp[ff]at hm
   ·refine tO (ml fun ag=>?_);rcases ty.e _ ag with⟨aq,d,_,aG,_⟩|⟨aq,_⟩|⟨aq,_⟩|⟨aq,_⟩
    ·cases aG
    ·rw[aq]at hm;simp[ff]at hm
    ·rw[aq]at hm;simp[ff]at hm
    ·rw[aq]at hm;simp[ff]at hm
 ·refine⟨fun i hi e=>?_,fun k ae=>ml fun ag=>?_,fun k ae=>ml fun ag=>?_⟩
  ·rw[zz.d]at hi;rw[ty.d]at e;exact cK i i hi e rfl
  ·rcases rF k ae with⟨bC,d,a2,a3,_⟩|bC|⟨bC,⟨j,a2⟩,_⟩|⟨bC,_⟩<;>rcases ty.b k ag with⟨cg,cn,cc,gq,_⟩|cg|⟨cg,⟨dG,cc⟩,_⟩|⟨cg,⟨dG,cc⟩,_⟩;all_goals first|(rw[bC,cg]at hm;simp[ff]at hm;done)|skip
   ·rw[a3]at gq;simp only[aM.loc.injEq]at gq;exact cK d cn a2 cc Ω
   ·rw[a3]at cc;cases cc
   ·rw[a3]at cc;cases cc
   ·rw[a2]at gq;cases gq
  ·rcases hle k ae with⟨bC,d,a2,a3,_,a4⟩|⟨bC,a2⟩|⟨bC,⟨j,a2⟩,_⟩|⟨bC,gW,a2,_⟩<;>rcases ty.e k ag with⟨cg,cn,cc,gq,_,u2⟩|⟨cg,cc⟩|⟨cg,⟨dG,cc⟩,_⟩|⟨cg,gR,cc,_⟩
   ·rw[a3]at gq;simp only[aM.loc.injEq]at gq;exact cK d cn a2 cc Ω
   ·rw[bC,cg]at hm;simp[ff]at hm
   ·rw[a3]at cc;cases cc
   ·rw[a4]at cc;cases cc
   ·rcases a2 with a2|⟨d,a2,a3,_⟩
    ·exact a2 u2
    ·rw[a3]at gq;simp only[aM.loc.injEq]at gq;exact cK d cn a2 cc Ω
   ·rw[bC,cg]at hm;simp[ff]at hm
   ·rw[bC,cg]at hm;simp[ff]at hm
   ·rw[bC,cg]at hm;simp[ff]at hm
   ·rw[a2]at gq;cases gq
   ·rw[bC,cg]at hm;simp[ff]at hm
   ·rw[bC,cg]at hm;simp[ff]at hm
   ·rw[bC,cg]at hm;simp[ff]at hm
   ·rw[u2]at a2;cases a2
   ·rw[bC,cg]at hm;simp[ff]at hm
   ·rw[bC,cg]at hm;simp[ff]at hm
   ·rw[bC,cg]at hm;simp[ff]at hm
def xX(C:fj)(A:dm)(a:Act)(w:World):Prop:= ∃st ν,lX st A/\(∀k,A.F k->fresh st.n st.o k)/\cY C st a w ν
theorem M5{st:br}{A:dm}(h:lX st A)(d:Nat)(p:ak):lX {st with t:=put d p st.t} (A.do ⟨some d,p,[],[],none⟩):=by
 refine⟨fun i=>?_,fun k=>?_,fun k=>?_⟩
 ·simp only[dm.do,qc,dE,h.t]
 ·simpa[dm.do,iQ,look]using h.b k
 ·simpa[dm.do,iQ,look]using h.e k
theorem WW{st:br}{A:dm}(h:lX st A)(d:Nat)(p:ak)(o':List aM)(rm:Option aM):lX {st with t:=put d p st.t,o:=o'} (A.do ⟨some d,p,[],[],rm⟩):=by have:=M5 h d p;exact⟨this.t,this.b,this.e⟩
theorem aaY{α:Type}{β:Type}:∀l:List (aM×α),cb ([]:List (aM×β)) l=l
 |[]=>rfl
 |(k,x)::r=>by simp[cb,look,aaY r]
theorem Bf{st:br}{A:dm}(h:lX st A)(d:Nat)(p:ak)(κ:aM)(cs:List ak)(n':Nat)(o':List aM)(rm:Option aM):lX ⟨put d p st.t,cF κ cs st.b,st.e,n',o'⟩ (A.do ⟨some d,p,[(κ,cs)],[],rm⟩):=by
 refine⟨fun i=>?_,fun k=>?_,fun k=>?_⟩
 ·simp only[dm.do,qc,dE,h.t]
 ·simp only[dm.do,iQ,look,jh,h.b];by_cases e:κ=k<;>simp[e]
 ·simpa[dm.do,iQ,look]using h.e k
theorem HW{st:br}{A:dm}(h:lX st A)(κ:aM)(cs:List ak)(p:ak):lX {st with b:=cF κ cs st.b} (A.do ⟨none,p,[(κ,cs)],[],none⟩):=by
 refine⟨fun i=>?_,fun k=>?_,fun k=>?_⟩
 ·simpa[dm.do]using h.t i
 ·simp only[dm.do,iQ,look,jh,h.b];by_cases e:κ=k<;>simp[e]
 ·simpa[dm.do,iQ,look]using h.e k
theorem xc{st:br}{A:dm}(h:lX st A)(d:Nat)(p:ak)(κ:aM)(o:fQ)(n':Nat)(o':List aM)(rm:Option aM):lX ⟨put d p st.t,st.b,cF κ o st.e,n',o'⟩ (A.do ⟨some d,p,[],[(κ,o)],rm⟩):=by
 refine⟨fun i=>?_,fun k=>?_,fun k=>?_⟩
 ·simp only[dm.do,qc,dE,h.t]
 ·simpa[dm.do,iQ,look]using h.b k
 ·simp only[dm.do,iQ,look,jh,h.e];by_cases e:κ=k<;>simp[e]
theorem WV{st:br}{A:dm}(h:lX st A)(κ:aM)(o:fQ)(p:ak):lX {st with e:=cF κ o st.e} (A.do ⟨none,p,[],[(κ,o)],none⟩):=by
 refine⟨fun i=>?_,fun k=>?_,fun k=>?_⟩
 ·simpa[dm.do]using h.t i
 ·simpa[dm.do,iQ,look]using h.b k
 ·simp only[dm.do,iQ,look,jh];by_cases e:κ=k<;>simp[e,h.e]
theorem Np{α:Type}{k:aM}:∀{l:List (aM×α)},k∈l.map (·.1)->(look k l).isSome
 |[],h=>by simp at h
 |(i,x)::r,h=>by
  simp only[look];split
  ·rfl
  ·rename_i e;simp only[ht,e7]at h;rcases h with h|h
   ·exact absurd h.symm e
   ·exact Np h
theorem wA{n:Nat}{o:List aM}{κ:aM}:∀j,fresh n (κ::o) j->fresh n o j/\j≠κ:=by intro j af;simp only[fresh,e7,not_or]at af⊢;exact⟨⟨af.1,af.2.2⟩,af.2.1⟩
theorem ago{n:Nat}{o:List aM}{κ j:aM}(h:fresh n o j)(af:some κ≠some j):fresh n (κ::o) j:=by simp only[fresh,e7,not_or]at h⊢;exact⟨h.1,fun e=>af (by rw[e]),h.2⟩
theorem P9{P:cJ}{bF:List (Nat×dB)}(aH:fM P bF=true){C:fj}{q:Bool}{n0:Nat}{i:eo}{o:Oper}(aw:vS C.N bF i o=true){A:dm}{x:la}(ad:eC P q n0 i A x){a:Act}{w:World}(aK:xX C A a w)
  {K:Act->World->Prop} {Q:Exit->Act->World->Prop} (c4:∀bn w',xX C (A.do x) bn w'->K bn w'):o.wp P a w K Q:=by
 obtain⟨st,ν,av,gB,aK⟩:=aK;have rz:∀(t:List (Nat×ak)) (b:List (aM×List ak)) (e:List (aM×fQ)) (d:Option Nat) (p:ak) (bw:List (aM×List ak)) (ew:List (aM×fQ)),∀k,(A.do ⟨d,p,bw,ew,none⟩).F k->fresh st.n st.o k:=fun t b e d p bw ew k ae=>gB k ae.1;have nN:∀(d:Option Nat) (p:ak) (bw:List (aM×List ak)) (ew:List (aM×fQ)) (κ:aM),∀k,(A.do ⟨d,p,bw,ew,some κ⟩).F k->fresh st.n (κ::st.o) k:=fun d p bw ew κ k ae=>ago (gB k ae.1) ae.2;cases i with
 |s i=>
  have hb:EU C.N bF i o=true:=by simpa only[vS]using aw
  cases i with
  |v d i=>simp only[eC]at ad;obtain⟨c,p,J,U,_,rfl⟩:=ad;rw[<-Z8 av]at J;refine j7 (κ:= .loc 0) (n':=0) (o₁:=[]) aH aK hb (fun h=>by simp[ev.makes]at h) (fun h=>by simp[ev.makes]at h) (st':={st with t:=put d p st.t}) (by simp only[eJ,J]) U fun bn w' bo cd=>c4 _ _ ⟨_,bo,M5 av d p,fun k ae=>gB k ae.1,cd⟩
  |box d key v=>
   cases key with
   |some m=>simp only[eC]at ad
   |none=>simp only[eC]at ad;obtain⟨⟨J,_⟩,U,rfl⟩:=ad;rw[<-jd av]at U;refine j7 (κ:= .loc (n0+d)) (n':=st.n) (o₁:= .loc (n0+d)::st.o) aH aK hb (fun _=>gB _ J) (fun _=>wA) (st':=⟨put d (.ptr (.loc (n0+d)) 0) st.t,cF (.loc (n0+d)) (cells (cy st.t v)) st.b,st.e,st.n,.loc (n0+d)::st.o⟩) (by simp only[eJ]) U fun bn w' bo cd=>c4 _ _ ⟨_,bo,?_,nN _ _ _ _ _,cd⟩;rw[jd av];exact Bf av d _ _ _ _ _ _
  |alloc d key z=>
   cases key with
   |some m=>simp only[eC]at ad
   |none=>simp only[eC]at ad;obtain⟨⟨J,_⟩,rfl⟩:=ad;refine j7 (κ:= .loc (n0+d)) (n':=st.n) (o₁:= .loc (n0+d)::st.o) aH aK hb (fun _=>gB _ J) (fun _=>wA) (st':=⟨put d (.ptr (.loc (n0+d)) 0) st.t,cF (.loc (n0+d)) (cells z) st.b,st.e,st.n,.loc (n0+d)::st.o⟩) (by simp only[eJ]) trivial fun bn w' bo cd=>c4 _ _ ⟨_,bo,Bf av d _ _ _ _ _ _,nN _ _ _ _ _,cd⟩
  |store sz u v=>simp only[eC]at ad;obtain⟨k,off,cs,J,U,ao,rfl⟩:=ad;rw[<-jd av]at J ao;rw[<-av.b]at U;refine j7 (κ:= .loc 0) (n':=0) (o₁:=[]) aH aK hb (fun h=>by simp[ev.makes]at h) (fun h=>by simp[ev.makes]at h) (st':={st with b:=cF k (oQ cs off (cells (cy st.t v))) st.b}) (by simp only[eJ,J,U]) ao fun bn w' bo cd=>c4 _ _ ⟨{st with b:=cF k (oQ cs off (cells (cy st.t v))) st.b},bo,by rw[jd av];exact HW av k _ _,fun k ae=>gB k ae.1,cd⟩
  |bsl d sz el xs=>simp only[eC]at ad;obtain⟨⟨J,_⟩,U,rfl⟩:=ad;rw[<-vb av]at U;refine j7 (κ:= .loc (n0+d)) (n':=st.n) (o₁:= .loc (n0+d)::st.o) aH aK hb (fun _=>gB _ J) (fun _=>wA) (st':=⟨put d (.slice sz (.own (.loc (n0+d))) (xs.map (cy st.t))) st.t,st.b,cF (.loc (n0+d)) ⟨xs.length,el,sz,none⟩ st.e,st.n,.loc (n0+d)::st.o⟩) (by simp only[eJ]) U fun bn w' bo cd=>c4 _ _ ⟨_,bo,?_,nN _ _ _ _ _,cd⟩;rw[vb av];exact xc av d _ _ _ _ _ _
  |app d sz el u v=>
   simp only[eC]at ad;obtain⟨tag,xs,lA,ys,J,U,ad⟩:=ad;rw[<-jd av]at J U;rcases ad with⟨k,ow,rfl,ao,a6,rfl⟩|⟨rfl,ao,⟨a6,_⟩,rfl⟩
   ·rw[<-av.e]at ao;refine j7 (κ:= .loc 0) (n':=0) (o₁:=[]) aH aK hb (fun h=>by simp[ev.makes,J]at h) (fun h=>by simp[ev.makes,J]at h) (st':=⟨put d (.slice sz (.own k) (xs++ys)) st.t,st.b,cF k ⟨xs.length+ys.length,el,sz,none⟩ st.e,st.n,st.o⟩) (by simp only[eJ,J,U,ao,and_self,if_true]) a6.2 fun bn w' bo cd=>c4 _ _ ⟨_,bo,xc av d _ _ _ _ _ _,fun k ae=>gB k ae.1,cd⟩
   ·refine j7 (κ:= .loc (n0+d)) (n':=st.n) (o₁:= .loc (n0+d)::st.o) aH aK hb (fun _=>gB _ a6) (fun _=>wA) (st':=⟨put d (.slice sz (.own (.loc (n0+d))) ys) st.t,st.b,cF (.loc (n0+d)) ⟨ys.length,el,sz,none⟩ st.e,st.n,.loc (n0+d)::st.o⟩) (by simp only[eJ,J,U,and_self,if_true]) ao fun bn w' bo cd=>c4 _ _ ⟨_,bo,xc av d _ _ _ _ _ _,nN _ _ _ _ _,cd⟩
  |bslm d key sz el xs=>simp only[eC]at ad
  |mks d key sz el z x=>simp only[eC]at ad
  |appm d key sz el u v=>simp only[eC]at ad;obtain⟨k,n,xs,lA,ys,J,U,ao,a6,rfl⟩:=ad;rw[<-jd av]at J U;rw[<-av.e]at ao;refine j7 (κ:= .loc 0) (n':=0) (o₁:=[]) aH aK hb (fun h=>by simp[ev.makes,J]at h) (fun h=>by simp[ev.makes,J]at h) (st':=⟨put d (.row sz k (xs.length+ys.length)) st.t,st.b,cF k ⟨xs.length+ys.length,el,sz,some (xs++ys)⟩ st.e,st.n,st.o⟩) (by simp only[eJ,tI,J,U,ao,and_self,if_true]) a6 fun bn w' bo cd=>c4 _ _ ⟨_,bo,xc av d _ _ _ _ _ _,fun k ae=>gB k ae.1,cd⟩
  |storeE sz u v=>simp only[eC]at ad;obtain⟨k,n,i,f,el,dH,xs,q,J,U,ao,a6,rfl⟩:=ad;rw[<-jd av]at J a6;rw[<-av.e]at U;refine j7 (κ:= .loc 0) (n':=0) (o₁:=[]) aH aK hb (fun h=>by simp[ev.makes]at h) (fun h=>by simp[ev.makes]at h) (st':={st with e:=cF k ⟨n,el,dH,some (xs.set i (qw q f (cells (cy st.t v))))⟩ st.e}) (by simp only[eJ,rU,J,U,ao,and_self,if_true]) a6 fun bn w' bo cd=>c4 _ _ ⟨{st with e:=cF k ⟨n,el,dH,some (xs.set i (qw q f (cells (cy st.t v))))⟩ st.e},bo,by rw[jd av];exact WV av k _ _,fun k ae=>gB k ae.1,cd⟩
  |mkmap d key=>
   cases key with
   |none=>simp only[eC]at ad
   |some m=>simp only[eC]at ad;obtain⟨⟨J,_⟩,rfl⟩:=ad;exact j7 (κ:= .obj m) (n':=st.n) (o₁:= .obj m::st.o) aH aK hb (fun _=>gB _ J) (fun _=>wA) (st':=⟨put d (.gmap (.obj m)) st.t,cF (.obj m) [.hdm 0 []] st.b,st.e,st.n,.obj m::st.o⟩) (by simp only[eJ]) trivial fun bn w' bo cd=>c4 _ _ ⟨_,bo,Bf av d _ _ _ _ _ _,nN _ _ _ _ _,cd⟩
  |mput ch u k v=>simp only[eC]at ad;obtain⟨m,cs,cs',J,U,ao,rfl⟩:=ad;rw[<-jd av]at J;rw[<-jd av,<-jd av]at ao;rw[<-av.b]at U;exact j7 (κ:= .loc 0) (n':=0) (o₁:=[]) aH aK hb (fun h=>by simp[ev.makes]at h) (fun h=>by simp[ev.makes]at h) (st':={st with b:=cF m cs' st.b}) (by simp only[eJ,J,U,ao]) trivial fun bn w' bo cd=>c4 _ _ ⟨{st with b:=cF m cs' st.b},bo,HW av m _ _,fun k ae=>gB k ae.1,cd⟩
  |range d key x=>simp only[eC]at ad
 |next d x=>simp only[eC]at ad
 |call d f xs=>
  simp only[eC]at ad;obtain⟨n,dt,J,ad⟩:=ad;rw[<-jd av]at J;rcases ad with⟨⟨s,ah,r,rm,b0,cu,dg,ku,lg,oA,CE,rfl⟩,_⟩|⟨cN,r,rfl,b0,cu,dg,rfl⟩;rotate_left
  ·rw[<-vb av]at cu dg;simp only[vS]at aw;split at aw
   ·rename_i si args B4 nS;simp only[cr,dQ]at aw;obtain⟨⟨⟨aq,aG⟩,bG⟩,di⟩:=aw;have mD:=et aK bG;rw[J]at mD;refine SX aK nS aq aG mD (EO aK di) (K:=fun st'=>st'={st with t:=put cN r st.t,o:= .loc (n0+cN)::st.o}) ⟨⟨[],[]⟩,_,some (n0+cN),st.n,fun _=>.loc (n0+cN)::st.o,fun k cs ae=>by simp[look]at ae,fun k cs ae=>by simp[look]at ae,⟨fun _=>rfl,fun _=>rfl⟩,ki (fun _ h=>h.elim) _ cu,dg,fun m hm=>?_,fun k eQ ah bt ae=>?_,?_⟩ ?_
    ·cases hm;exact gB _ b0.1
    ·obtain⟨_,rfl⟩:=bt;have:=wA k ae;exact⟨by simpa[c3]using this.1,fun m hm=>by cases hm;exact this.2⟩
    ·rintro eQ pK ⟨rfl,rfl⟩;refine⟨⟨fun m hm=>by simp[look]at hm,fun m hm=>by simp[look]at hm⟩,?_⟩;simp[after,aaY,eY]
    ·rintro st' bn w' bo rfl cd;exact c4 _ _ ⟨_,bo,WW av cN r _ _,nN _ _ _ _ _,cd⟩
   ·cases aw
  rw[<-vb av]at oA CE;simp only[vS]at aw;split at aw
  ·rename_i si args B4 nS;simp only[cr,dQ]at aw;obtain⟨⟨⟨aq,aG⟩,bG⟩,di⟩:=aw;have mD:=et aK bG;rw[J]at mD;obtain⟨aP,bd,bS,ea,dj⟩:=lg;refine SV aK nS aq aG mD (EO aK di) (K:=fun st'=>st'=after st s ah d r) (.inl ⟨s,_,fun k cs ae=>⟨by rw[av.b];exact(b0 k cs ae).1,.inl (by simp[ae]),(b0 k cs ae).2⟩,fun k o' ae=>⟨by rw[av.e];exact(cu k o' ae).1,.inr (by simp[ae]),(cu k o' ae).2⟩,dg,oA,CE,?_⟩) ?_
   ·rintro eQ pK ⟨rfl,rfl⟩;refine⟨⟨fun m hm=>?_,fun m hm=>?_⟩,rfl⟩
    ·rcases aP _ hm with h|h
     ·exact .inl h
     ·exact .inr (gB _ (dj _ h).2.1).2
    ·rcases bd _ hm with h|h
     ·exact .inl h
     ·exact .inr (gB _ (dj _ h).2.1).2
   ·rintro st' bn w' bo rfl cd;refine c4 _ _ ⟨_,bo,⟨fun i=>?_,fun k=>?_,fun k=>?_⟩,fun k ae=>?_,cd⟩
    ·simp only[after,dm.do];cases d with
     |none=>simpa[eY]using av.t i
     |some d=>simp only[eY,qc,dE,av.t]
    ·simp only[after,dm.do,iQ,yV,vJ];by_cases ag:(look k s.b).isSome
     ·have:=bS k ag;obtain⟨y,aC⟩:=fE.1 this;simp[ag,aC]
     ·cases au:look k ah.b with
      |none=>simp only[ag,av.b];cases A.b k<;>simp
      |some y=>
       rcases aP k (by simp[au])with h|h
       ·exact absurd h ag
       ·have:=dj k h;simp[ag,av.b,this]
    ·simp only[after,dm.do,iQ,yV,vJ];by_cases ag:(look k s.e).isSome
     ·have:=ea k ag;obtain⟨y,aC⟩:=fE.1 this;simp[ag,aC]
     ·cases au:look k ah.e with
      |none=>simp only[ag,av.e];cases A.e k<;>simp
      |some y=>
       rcases bd k (by simp[au])with h|h
       ·exact absurd h ag
       ·have:=dj k h;simp[ag,av.e,this]
    ·have LP:=gB k ae.1;have ps:=aK.lookNone LP;simp only[after];refine⟨LP.1,fun j0=>?_⟩;rcases iz.1 j0 with j0|j0
     ·exact LP.2 j0
     ·rcases iz.1 j0 with j0|j0
      ·rcases aP k (Np j0)with h|h
       ·obtain⟨y,aC⟩:=fE.1 h;have:=(b0 k y aC).1;rw[<-av.b,ps.1]at this;cases this
       ·exact ae.2 h
      ·rcases bd k (Np j0)with h|h
       ·obtain⟨y,aC⟩:=fE.1 h;have:=(cu k y aC).1;rw[<-av.e,ps.2]at this;cases this
       ·exact ae.2 h
  ·cases aw
theorem abh{P:cJ}{bF:List (Nat×dB)}(aH:fM P bF=true){C:fj}{q:Bool}{n0:Nat}{ops:Array Oper}{g:dc}{o:Oper}{j:Nat}(af:ops[j]? =some o)(aw:C2 C.N bF ops.toList g o=true){A:dm}{x:la}(ad:lb P q n0 g A x){a:Act}{w:World}(aK:xX C A a w)
  {K:Act->World->Prop} {Q:Exit->Act->World->Prop} (c4:∀bn w',xX C (A.do x) bn w'->K bn w'):wpOp P ops Q j K a w:=by
 unfold wpOp;rw[af];simp only;simp only[C2,cr]at aw;obtain⟨rC,pq⟩:=aw;unfold lb at ad;cases Dn:g.g with
 |none=>
  cases dR:o.guard with
  |some x=>simp[dR,Dn]at rC
  |none=>
   have hw:pR o (yielded ops a.tmps)=true:=by simp[pR,dR]
   rw[if_pos hw];simp only[Dn]at ad;exact .inl (P9 aH pq ad aK c4)
 |some zw=>
  obtain⟨s,want⟩:=zw;cases dR:o.guard with
  |none=>simp[dR,Dn]at rC
  |some aqQ=>
   obtain⟨ata,b1⟩:=aqQ;simp only[dR,Dn,cr,dQ,en]at rC;obtain⟨⟨⟨⟨rfl,U⟩,ao⟩,a6⟩,b7⟩:=rC;obtain⟨st,ν,av,gB,dp⟩:=id aK;obtain⟨k5,pP⟩:=aa6 dp U ao;simp only[Dn]at ad;have VD:∀(h:x=lT g.i.dst),K (a.put o.dst undef) w:=by
    rintro rfl;rw[a6];refine c4 _ _ ⟨_,ν,?_,fun k ae=>?_,dp.put b7 (p:= .tuple []) (by simp[bc,cT,undef])⟩
    ·refine⟨fun i=>?_,fun k=>?_,fun k=>?_⟩
     ·simp only[dm.do,lT];cases g.i.dst with
      |none=>simpa[eY]using av.t i
      |some d=>simp only[eY,qc,dE,av.t]
     ·simpa[dm.do,iQ,look,lT]using av.b k
     ·simpa[dm.do,iQ,look,lT]using av.e k
    ·exact gB k ae.1
   split at ad
   ·rename_i b ab;have aC:=k5 b (by rw[av.t];exact ab);rcases ad with⟨rfl,ad⟩|⟨rfl,ad⟩
    ·have hw:pR o (yielded ops a.tmps)=true:=by simp[pR,dR,aC]
     rw[if_pos hw];exact .inl (P9 aH pq ad aK c4)
    ·have hw:¬(pR o (yielded ops a.tmps)=true):=by simp[pR,dR,aC]
     rw[if_neg hw];exact VD ad
   ·rename_i ab;have aC:=pP (by rw[av.t];exact ab);have hw:¬(pR o (yielded ops a.tmps)=true):=by simp[pR,dR,aC]
    rw[if_neg hw];exact VD ad
   ·exact ad.elim
def wx(P:cJ)(q:Bool)(n0:Nat)(K:dm->Prop):List (Nat×dc)->dm->Prop
 |[],A=>K A
 |(_,g)::r,A=> ∃x,lb P q n0 g A x/\wx P q n0 K r (A.do x)
theorem QM{P:cJ}{q:Bool}{n0:Nat}{K:dm->Prop}{i:Nat}{g:dc}:∀(o4 pY:List (Nat×dc)) (A:dm),(∀x∈o4,Ar x.2 g=true)->wx P q n0 K (o4++(i,g)::pY) A->∃x,lb P q n0 g A x/\wx P q n0 K (o4++pY) (A.do x)
 |[],pY,A,_,h=>h
 |(j,Uq)::o4,pY,A,ar,h=>by simp only[bZ,wx]at h;obtain⟨y,aC,h⟩:=h;obtain⟨x,ad,h⟩:=QM o4 pY (A.do y) (fun z ba=>ar z (o1 _ ba)) h;obtain⟨s1,s2,s3⟩:=swap (ar _ (List.mem_cons_self ..)) aC ad;refine⟨x,s1,y,s2,?_⟩;rw[<-dm.do_comm A s3];exact h
def rem(hX:Array Bool):Nat->List dc->List (Nat×dc)
 |_,[]=>[]
 |k,g::r=>if hX.getD k false then rem hX (k+1) r else(k,g)::rem hX (k+1) r
theorem Zh{l a8:Array Bool}:∀(gs:List dc) (k:Nat),(∀j,k<=j->l.getD j false=a8.getD j false)->rem l k gs=rem a8 k gs
 |[],_,_=>rfl
 |g::r,k,h=>by simp only[rem,h k (eu _),Zh r (k+1) fun j af=>h j Ω]
theorem GK{l:Array Bool}{i j:Nat}(h:i<l.size):(l.setIfInBounds i true).getD j false=if i=j then true else l.getD j false:=by
 simp only[Array.getD_eq_getD_getElem?];by_cases e:i=j
 ·subst e;simp[h]
 ·simp[e]
theorem OJ{l:Array Bool}{i:Nat}(hi:i<l.size)(au:l.getD i false=false):∀(gs:List dc) (k:Nat),k<=i->i<k+gs.length->∃o4 pY g,gs[i-k]? =some g/\rem l k gs=o4++(i,g)::pY/\rem (l.setIfInBounds i true) k gs=o4++pY/\
  ∀x∈o4,gs[x.1-k]? =some x.2/\k<=x.1/\x.1<i/\l.getD x.1 false=false
 |[],k,J,U=>by simp at U;omega
 |g::r,k,J,U=>by
  by_cases e:k=i
  ·subst e;refine⟨[],rem l (k+1) r,g,Ψ,by simp[rem,au],?_,fun x ad=>by simp at ad⟩;simp only[rem,GK hi,if_true,b4];exact Zh r (k+1) fun j af=>by rw[GK hi,if_neg Ω]
  ·obtain⟨o4,pY,fc,aq,aG,bG,di⟩:=OJ hi au r (k+1) Ω (by simp at U;omega);have vp:i-k=(i-(k+1))+1:=Ω
   have hj:(l.setIfInBounds i true).getD k false=l.getD k false:=by rw[GK hi,if_neg Ω]
   by_cases ae:l.getD k false=true
   ·refine⟨o4,pY,fc,by rw[vp];simpa using aq,by simp only[rem,ae,if_true,aG],by simp only[rem,hj,ae,if_true,bG],fun x ad=>?_⟩;obtain⟨f1,f2,f3,f4⟩:=di x ad;refine⟨?_,Ω,f3,f4⟩;have:x.1-k=(x.1-(k+1))+1:=Ω
    rw[this];simpa using f1
   ·have ae:l.getD k false=false:=by simpa using ae
    refine⟨(k,g)::o4,pY,fc,by rw[vp];simpa using aq,by simp[rem,ae,aG],by simp[rem,hj,ae,bG],fun x ad=>?_⟩;rcases e7.1 ad with rfl|ad
    ·exact⟨Ψ,eu _,by simp;omega,ae⟩
    ·obtain⟨f1,f2,f3,f4⟩:=di x ad;refine⟨?_,Ω,f3,f4⟩;have:x.1-k=(x.1-(k+1))+1:=Ω
     rw[this];simpa using f1
def vK(acc:List Nat):List Edge->Nat
 |[]=>0
 |e::r=>if Region.binds .any e then(2 ^ e.on)|||(acc.getD e.on 0)|||vK acc r else vK acc r
def sX(acc:List Nat):List Oper->List Nat
 |[]=>acc
 |o::os=>sX (acc++[vK acc o.after.toList]) os
def ER(m:Nat)(h:dc):Nat->List dc->Bool
 |_,[]=>true
 |i,g::r=>(m.testBit i||Ar g h)&&ER m h (i+1) r
def EA:List dc->List dc->List Nat->Bool
 |_,[],_=>true
 |pre,h::r,m::ms=>ER m h 0 pre&&EA (pre++[h]) r ms
 |_,_,[]=>false
def CM:Nat->List Oper->Bool
 |_,[]=>true
 |k,o::os=>o.after.toList.all (fun e=> !Region.binds .any e||decide (e.on<k))&&CM (k+1) os
def Cy(gs:List dc)(ops:List Oper):Bool:=CM 0 ops&&EA [] gs (sX [] ops)
theorem Nf{acc:List Nat}{j:Nat}:∀{es:List Edge},(vK acc es).testBit j=true->∃e∈es,Region.binds .any e=true/\(j=e.on\/(acc.getD e.on 0).testBit j=true)
 |[],h=>by simp[vK]at h
 |e::r,h=>by
  simp only[vK]at h;split at h
  ·rename_i ab;simp only[Nat.testBit_or,k6]at h;rcases h with(h|h)|h
   ·refine⟨e,Ψ,ab,.inl ?_⟩;rw[Nat.testBit_two_pow]at h;have cd:e.on=j:=by simpa using h
    exact cd.symm
   ·exact⟨e,Ψ,ab,.inr h⟩
   ·obtain⟨fF,J,U⟩:=Nf h;exact⟨fF,by simp[J],U⟩
  ·obtain⟨fF,J,U⟩:=Nf h;exact⟨fF,by simp[J],U⟩
theorem Ng:∀(os:List Oper) (acc:List Nat) (k:Nat),k<acc.length->(sX acc os)[k]? =acc[k]?
 |[],acc,k,_=>rfl
 |o::os,acc,k,h=>by simp only[sX];rw[Ng os _ k (by simp;omega),List.getElem?_append_left h]
theorem W5:∀(os:List Oper) (acc:List Nat) (k:Nat) (o:Oper),os[k]? =some o->∃uZ,(sX acc os)[acc.length+k]? =some (vK uZ o.after.toList)/\uZ.length=acc.length+k/\∀i,i<uZ.length->uZ[i]? =(sX acc os)[i]?
 |[],acc,k,o,h=>by simp at h
 |o'::os,acc,0,o,h=>by
  simp only[List.getElem?_cons_zero,dE]at h;subst h;refine⟨acc,?_,Ψ,fun i hi=>?_⟩
  ·simp only[sX,Nat.add_zero];rw[Ng os _ _ Ψ];simp
  ·simp only[sX];rw[Ng os _ i (by simp;omega),List.getElem?_append_left hi]
 |o'::os,acc,k+1,o,h=>by simp only[List.getElem?_cons_succ]at h;obtain⟨uZ,J,U,ao⟩:=W5 os (acc++[vK acc o'.after.toList]) k o h;refine⟨uZ,?_,by rw[U];simp;omega,fun i hi=>by rw[ao i hi];rfl⟩;simp only[sX];rw[show acc.length+(k+1)=(acc++[vK acc o'.after.toList]).length+k from by simp;omega];exact J
def P6(ops:Array Oper)(hX:Array Bool):Prop:= ∀k o,ops[k]? =some o->hX.getD k false=true->∀e∈o.after.toList,Region.binds .any e=true->hX.getD e.on false=true
theorem akx{ops:Array Oper}{hX:Array Bool}(aF:P6 ops hX):∀(k:Nat) (o:Oper),ops[k]? =some o->(∀e∈o.after.toList,Region.binds .any e=true->hX.getD e.on false=true)->∀j,((sX [] ops.toList).getD k 0).testBit j=true->hX.getD j false=true:=by
 intro k;induction k using qA with
 |_ k bR=>
  intro o aw av j af;obtain⟨uZ,J,U,ao⟩:=W5 ops.toList [] k o (by simpa using aw);simp only[List.length_nil,Nat.zero_add]at J U;rw[List.getD_eq_getElem?_getD,J]at af;obtain⟨e,he,ab,cA⟩:=Nf af;rcases cA with rfl|cA
  ·exact av e he ab
  ·by_cases bz:e.on<uZ.length
   ·have hm:uZ.getD e.on 0=(sX [] ops.toList).getD e.on 0:=by rw[List.getD_eq_getElem?_getD,ao _ bz,List.getD_eq_getElem?_getD]
    have ae:k<ops.size:=(Array.getElem?_eq_some_iff.1 aw).1;have hb:ops[e.on]? =some ops[e.on]:=Array.getElem?_eq_getElem Ω;rw[hm]at cA;exact bR e.on Ω _ hb (fun fF wI gk=>aF e.on _ hb (av e he ab) fF wI gk) j cA
   ·rw[List.getD_eq_getElem?_getD,pT Ω]at cA;simp at cA
theorem Zz{m:Nat}{h:dc}:∀{gs:List dc} {i0:Nat},ER m h i0 gs=true->∀i g,gs[i]? =some g->m.testBit (i0+i)=true\/Ar g h=true
 |[],i0,_,i,g,aX=>by simp at aX
 |fc::r,i0,aK,0,g,aX=>by simp only[ER,cr,k6]at aK;simp only[List.getElem?_cons_zero,dE]at aX;subst aX;simpa using aK.1
 |fc::r,i0,aK,i+1,g,aX=>by simp only[ER,cr]at aK;have:=Zz aK.2 i g (by simpa using aX);rwa[show i0+1+i=i0+(i+1)from by omega]at this
theorem X3:∀{gs pre:List dc} {ms:List Nat},EA pre gs ms=true->∀j h,gs[j]? =some h->∀i g,i<pre.length+j->(pre++gs)[i]? =some g->(ms.getD j 0).testBit i=true\/Ar g h=true
 |[],pre,ms,_,j,h,af,_,_,_,_=>by simp at af
 |cd::r,pre,[],bD,j,h,af,_,_,_,_=>by simp[EA]at bD
 |cd::r,pre,m::ms,bD,j,h,af,i,g,hi,aX=>by
  simp only[EA,cr]at bD;cases j with
  |zero=>simp only[List.getElem?_cons_zero,dE]at af;subst af;rw[List.getElem?_append_left Ω]at aX;simpa using Zz bD.1 i g aX
  |succ j=>have:=X3 bD.2 j h (by simpa using af) i g (by simp;omega) (by simpa using aX);simpa using this
theorem Tm:∀{os:List Oper} {k:Nat},CM k os=true->∀i o,os[i]? =some o->∀e∈o.after.toList,Region.binds .any e=true->e.on<k+i
 |[],k,_,i,o,aw,_,_,_=>by simp at aw
 |o'::os,k,h,0,o,aw,e,he,ab=>by simp only[CM,cr,fy]at h;simp only[List.getElem?_cons_zero,dE]at aw;subst aw;have:=h.1 e he;simpa[ab]using this
 |o'::os,k,h,i+1,o,aw,e,he,ab=>by simp only[CM,cr]at h;have:=Tm h.2 i o (by simpa using aw) e he ab;omega
theorem Us{N:Nat}{bF:List (Nat×dB)}{ops:List Oper}:∀{gs:List dc} {os:List Oper},kQ N bF ops gs os=true->∀(i:Nat) (g:dc),gs[i]? =some g->∃o,os[i]? =some o/\C2 N bF ops g o=true
 |[],[],_,i,g,h=>by simp at h
 |[],_::_,h,_,_,_=>by simp[kQ]at h
 |_::_,[],h,_,_,_=>by simp[kQ]at h
 |fc::gs,o::os,h,0,g,aX=>by simp only[kQ,cr]at h;simp only[List.getElem?_cons_zero,dE]at aX;subst aX;exact⟨o,Ψ,h.1⟩
 |fc::gs,o::os,h,i+1,g,aX=>by simp only[kQ,cr]at h;obtain⟨o',J,U⟩:=Us h.2 i g (by simpa using aX);exact⟨o',by simpa using J,U⟩
theorem Lw{N:Nat}{bF:List (Nat×dB)}{ops:List Oper}:∀{gs:List dc} {os:List Oper},kQ N bF ops gs os=true->gs.length=os.length
 |[],[],_=>rfl
 |[],_::_,h=>by simp[kQ]at h
 |_::_,[],h=>by simp[kQ]at h
 |g::gs,o::os,h=>by simp only[kQ,cr]at h;simp[Lw h.2]
theorem Zi{l:Array Bool}:∀(gs:List dc) (k:Nat),rem l k gs=[]\/ ∃i g,i<gs.length/\gs[i]? =some g/\l.getD (k+i) false=false/\∀j,j<i->l.getD (k+j) false=true
 |[],_=>.inl rfl
 |g::r,k=>by
  by_cases h:l.getD k false=true
  ·rcases Zi (l:=l) r (k+1)with J|⟨i,fc,J,U,ao,a6⟩
   ·left;simp only[rem,h,if_true,J]
   ·refine .inr ⟨i+1,fc,by simp;omega,by simpa using U,by rw[show k+(i+1)=k+1+i from by omega];exact ao,fun j af=>?_⟩;cases j with
    |zero=>simpa using h
    |succ j=>rw[show k+(j+1)=k+1+j from by omega];exact a6 j Ω
  ·exact .inr ⟨0,g,Ψ,Ψ,by simpa using h,fun j af=>Ω⟩
theorem abK{P:cJ}{bF:List (Nat×dB)}(aH:fM P bF=true){C:fj}{q:Bool}{n0:Nat}{ops:Array Oper}{gs:List dc}(kS:kQ C.N bF ops.toList gs ops.toList=true)(GV:Cy gs ops.toList=true){K:dm->Prop}{Q:Exit->Act->World->Prop}
  (iu:∀A a w,K A->xX C A a w->Q .normal a w):∀(fuel:Nat) (hX:Array Bool) (A:dm) (a:Act) (w:World),hX.size=ops.size->P6 ops hX->(rem hX 0 gs).length<=fuel->wx P q n0 K (rem hX 0 gs) A->xX C A a w->wpAny P .any ops Q fuel hX a w:=by
 simp only[Cy,cr]at GV;obtain⟨LH,aiK⟩:=GV;have hlen:gs.length=ops.size:=by simpa using Lw kS
 have UW:∀(hX:Array Bool) (A:dm) (a:Act) (w:World),hX.size=ops.size->wx P q n0 K (rem hX 0 gs) A->xX C A a w->Region.ready .any ops hX=[]->Q .normal a w:=by
  intro hX A a w ep tW aK Hl;rcases Zi (l:=hX) gs 0 with h|⟨i,g,J,U,ao,a6⟩
  ·rw[h]at tW;exact iu A a w tW aK
  ·exfalso;have hi:i<ops.size:=Ω
   have j0:i∈Region.ready .any ops hX:=by
    unfold Region.ready;simp only[iL,List.mem_range,cr,pQ];refine⟨hi,?_,?_⟩
    ·rw[Nat.zero_add]at ao;simp only[Array.getD_eq_getD_getElem?]at ao⊢;rw[Array.getElem?_eq_getElem Ω]at ao⊢;simpa using ao
    ·rw[Array.getElem?_eq_getElem hi];simp only[oq,jo];rw[<-Array.all_toList,fy];intro e he;by_cases ab:Region.binds .any e=true
     ·have bz:=Tm LH i ops[i] (by simp[hi]) e he ab;have:=a6 e.on Ω;rw[Nat.zero_add]at this;simp[this]
     ·simp[ab]
   rw[Hl]at j0;simp at j0
 intro fuel;induction fuel with
 |zero=>
  intro hX A a w ep aF aQ tW aK;have aiD:rem hX 0 gs=[]:=List.eq_nil_of_length_eq_zero Ω;have Hl:Region.ready .any ops hX=[]:=by
   rw[List.eq_nil_iff_forall_not_mem];intro i hi;unfold Region.ready at hi;simp only[iL,List.mem_range,cr,pQ]at hi;obtain⟨J,U,_⟩:=hi;have au:hX.getD i false=false:=by simp only[Array.getD_eq_getD_getElem?]at U⊢;rw[Array.getElem?_eq_getElem Ω]at U⊢;simpa using U
   obtain⟨o4,pY,g,_,aG,_⟩:=OJ Ω au gs 0 Ω Ω;rw[aiD]at aG;simp at aG
  exact⟨Hl,UW hX A a w ep tW aK Hl⟩
 |succ fuel bR=>
  intro hX A a w ep aF aQ tW aK;refine⟨UW hX A a w ep tW aK,fun i hi=>?_⟩;unfold Region.ready at hi;simp only[iL,List.mem_range,cr,pQ]at hi;obtain⟨J,U,ao⟩:=hi;have au:hX.getD i false=false:=by simp only[Array.getD_eq_getD_getElem?]at U⊢;rw[Array.getElem?_eq_getElem Ω]at U⊢;simpa using U
  have aw:ops[i]? =some ops[i]:=Array.getElem?_eq_getElem J;have UY:∀e∈ops[i].after.toList,Region.binds .any e=true->hX.getD e.on false=true:=by rw[aw]at ao;simp only[oq,jo]at ao;rw[<-Array.all_toList,fy]at ao;intro e he ab;simpa[ab]using ao e he
  obtain⟨o4,pY,g,aq,aG,bG,di⟩:=OJ Ω au gs 0 Ω Ω;simp only[Nat.sub_zero]at aq di;rw[aG]at tW;obtain⟨x,ad,ahJ⟩:=QM o4 pY A (fun y aC=>by
   obtain⟨f1,f2,f3,f4⟩:=di y aC;rcases X3 aiK i g aq y.1 y.2 (by simpa using f3) (by simpa using f1)with h|h
   ·have:=akx aF i ops[i] aw UY y.1 h;rw[f4]at this;cases this
   ·exact h) tW
  obtain⟨o',g1,g2⟩:=Us kS i g aq;have:o'=ops[i]:=by rw[uO,aw]at g1;exact(eH g1).symm
  subst this;refine abh aH aw g2 ad aK fun bn w' dp=>?_;refine bR (hX.setIfInBounds i true) (A.do x) bn w' (by simpa using ep) ?_ ?_ (by rw[bG];exact ahJ) dp
  ·intro k o ae av e he ab;rw[GK Ω]at av⊢;split
   ·rfl
   ·by_cases vp:i=k
    ·subst vp;rw[aw]at ae;cases ae;exact UY e he ab
    ·rw[if_neg vp]at av;exact aF k o ae av e he ab
  ·rw[bG];rw[aG]at aQ;simp at aQ⊢;omega
def yg(n0 d:Nat)(st:br):Prop:= .loc (n0+d)∉st.o/\look (.loc (n0+d)) st.b=none/\look (.loc (n0+d)) st.e=none
def gg.loadO(q:Bool)(t:List (Nat×ak)):gg->Prop
 | .load _ _ x=>q=true\/yM (cy t x)=true
 | .loadB _ _ _=>True
 | .mgetB _ _ _ _ _=>True
 | .mget _ _ _ _ _=>q=true
 | .ment _=>q=true
 | .mlen _=>q=true
 |_=>True
def my(q:Bool)(nw:List Nat)(n0:Nat)(st:br):ev->Prop
 | .v _ i=>i.loadO q st.t
 | .box d none _=>yg n0 d st
 | .alloc d none _=>yg n0 d st
 | .box _ (some _) _=>eB
 | .alloc _ (some _) _=>eB
 | .store _ x _=>match cy st.t x with| .ptr _ _=>True|_=>eB
 | .bslm _ _ _ _ _=>eB
 | .mks _ _ _ _ _ _=>eB
 | .appm _ _ _ _ x _=>match cy st.t x with| .row _ _ _=>True|_=>eB
 | .storeE _ _ _=>True
 | .mkmap _ none=>eB
 | .mkmap _ (some m)=>m∈nw/\look (.obj m) st.b=none/\look (.obj m) st.e=none
 | .mput _ _ _ _=>True
 | .range _ _ _=>eB
 | .bsl d _ _ _=>yg n0 d st
 | .app d _ _ x _=>match cy st.t x with
  | .slice _ .nil _=>yg n0 d st
  | .slice _ (.own k) _=>(look k st.e).bind (·.xs)=none
  |_=>True
def p7(n0:Nat):ev->aM
 | .mkmap _ (some m)=>.obj m
 | .v d _| .box d _ _| .alloc d _ _| .bsl d _ _ _| .app d _ _ _ _| .bslm d _ _ _ _| .appm d _ _ _ _ _| .mkmap d _| .range d _ _| .mks d _ _ _ _ _=>.loc (n0+d)
 | .store _ _ _| .mput _ _ _ _| .storeE _ _ _=>.loc n0
def aj5(nw:List Nat)(st:br)(s ah:cR)(rm:Option aM):Prop:=(∀k,(look k ah.b).isSome->(look k s.b).isSome\/rm=some k)/\(∀k,(look k ah.e).isSome->(look k s.e).isSome\/rm=some k)/\(∀k,(look k s.b).isSome->(look k ah.b).isSome)/\(∀k,(look k s.e).isSome->(look k ah.e).isSome)/\
 (∀k,rm=some k->(∃j,j∈nw/\k= .obj j)/\look k st.b=none/\look k st.e=none/\((look k ah.b).isSome\/(look k ah.e).isSome))
def hH(P:cJ)(q:Bool)(nw:List Nat)(n:Nat)(args:List ak)(st:br)(d:Option Nat)(K:br->Prop):Prop:=
 (∃cN r,d=some cN/\yg st.n cN st/\aN (fun _=>eB) args/\JE P n (st.n+cN) args ⟨[],[]⟩ (fun eQ dO=>eQ=r/\dO=⟨[],[]⟩)/\K {st with t:=put cN r st.t,o:= .loc (st.n+cN)::st.o})\/
 ∃s ah r rm,gL (inObs s) s.b st.b/\oa (inObs s) s.e st.e/\iV s/\iV ah/\aj5 nw st s ah rm/\aN (inObs s) args/\bI P n args s (fun eQ dO=>eQ=r/\dO=ah)/\(q=true->ah.b=[]/\ah.e=[])/\K {after st s ah d r with o:=st.o}
def kO(P:cJ)(q:Bool)(nw:List Nat)(n0:Nat)(st:br)(K:br->Prop):eo->Prop
 | .s i=>match eJ (p7 n0 i) st.n (p7 n0 i::st.o) st i with
  |some (c,st')=>my q nw n0 st i/\c/\K st'
  |none=>eB
 | .call d f xs=>match cy st.t f with
  | .func n dt=>hH P q nw n (c7 (xs.map (cy st.t)++dt)) st d K
  |_=>eB
 | .next _ _=>eB
def h8(P:cJ)(q:Bool)(nw:List Nat)(n0:Nat):List dc->br->(br->Prop)->Prop
 |[],st,K=>K st
 |⟨none,i⟩::r,st,K=>kO P q nw n0 st (fun st'=>h8 P q nw n0 r st' K) i
 |⟨some (s,want),i⟩::r,st,K=>match get s st.t with
  | .bool b=>(b=want->kO P q nw n0 {st with t:=put s (.bool want) st.t} (fun st'=>h8 P q nw n0 r st' K) i)/\(b= !want->h8 P q nw n0 r {st with t:=eY i.dst (.tuple []) (put s (.bool !want) st.t)} K)
  | .tuple []=>h8 P q nw n0 r {st with t:=eY i.dst (.tuple []) st.t} K
  |_=>eB
structure tC (nw:List Nat) (n0 N:Nat) (qq:List aM) (st:br) (A:dm):Prop where
 like:lX st A
 n:st.n=n0
 F:∀k,fresh n0 st.o k->(∀j∈nw,k≠ .obj j)->A.F k
 o:∀k∈st.o,k∈qq\/(∃d,d<N/\k= .loc (n0+d))\/ ∃j∈nw,k= .obj j
def Cp(nw:List Nat)(A:dm):Prop:= ∀j∈nw,A.b (.obj j)=none->A.e (.obj j)=none->A.F (.obj j)
theorem Cp.do{P:cJ}{q:Bool}{n0:Nat}{nw:List Nat}{A:dm}(h:Cp nw A){g:dc}{x:la}(ad:lb P q n0 g A x):Cp nw (A.do x):=by
 intro j af ab he;refine⟨h j af (KG ab) (KH he),fun rq=>?_⟩;rcases(Ps ad).r _ rq with⟨d,_,e⟩|⟨_,_,ag⟩
 ·cases e
 ·rcases ag with ag|ag
  ·obtain⟨y,aC⟩:=fE.1 ag;simp[dm.do,iQ,aC]at ab
  ·obtain⟨y,aC⟩:=fE.1 ag;simp[dm.do,iQ,aC]at he
theorem Tv{P:cJ}{q:Bool}{nw:List Nat}{n0 N:Nat}{qq:List aM}{i:eo}(aF:∀d,i.dst=some d->d<N){st:br}{A:dm}(h:tC nw n0 N qq st A)(jY:Cp nw A){K:br->Prop}(he:kO P q nw n0 st K i):∃x st',eC P q n0 i A x/\K st'/\tC nw n0 N qq st' (A.do x):=by
 have av:=h.like;have yt:∀d,yg n0 d st->(A.F (.loc (n0+d))/\A.b (.loc (n0+d))=none/\A.e (.loc (n0+d))=none):=fun d aQ=>⟨h.F _ ⟨Ψ,aQ.1⟩ (fun _ _ e=>by cases e),by rw[<-av.b];exact aQ.2.1,by rw[<-av.e];exact aQ.2.2⟩;have nN:∀(d:Option Nat) (p:ak) (bw:List (aM×List ak)) (ew:List (aM×fQ)) (κ:aM),∀k,fresh n0 (κ::st.o) k->(∀j∈nw,k≠ .obj j)->(A.do ⟨d,p,bw,ew,some κ⟩).F k:=fun d p bw ew κ k ae af=>⟨h.F k (wA k ae).1 af,fun e=>(wA k ae).2 (eH e).symm⟩;have rz:∀(d:Option Nat) (p:ak) (bw:List (aM×List ak)) (ew:List (aM×fQ)),∀k,fresh n0 st.o k->(∀j∈nw,k≠ .obj j)->(A.do ⟨d,p,bw,ew,none⟩).F k:=fun d p bw ew k ae af=>⟨h.F k ae af,Ψ⟩;have l7:∀d,d<N->∀k∈aM.loc (n0+d)::st.o,k∈qq\/(∃d,d<N/\k= .loc (n0+d))\/ ∃j∈nw,k= .obj j:=fun d aF k ae=>by
  rcases e7.1 ae with rfl|ae
  ·exact .inr (.inl ⟨d,aF,rfl⟩)
  ·exact h.o k ae
 cases i with
 |s i=>
  cases i with
  |v d i=>
   simp only[kO,eJ]at he;cases ay:hD st i with
   |none=>simp[ay]at he
   |some KD=>
    obtain⟨c,p⟩:=KD;simp only[ay]at he;obtain⟨J,U,ao⟩:=he;refine⟨⟨some d,p,[],[],none⟩,_,⟨c,p,by rw[<-Z8 av];exact ay,U,fun oF=>?_,rfl⟩,ao,M5 av d p,h.n,rz _ _ _ _,h.o⟩;cases i<;>simp only[gg.isLoad]at oF<;>try(cases oF;done)
    case mget=>exact .inr (.inl J)
    case ment=>exact .inr (.inl J)
    case mlen=>exact .inr (.inl J)
    case loadB=>exact .inl rfl
    case mgetB=>exact .inl rfl
    simp only[my,gg.loadO,jd av]at J;exact .inr (by simpa only[gg.ptrOf]using J)
  |box d key v=>
   cases key with
   |some m=>simp only[kO,eJ,my,false_and]at he
   |none=>simp only[kO,eJ,my,p7]at he;obtain⟨J,U,ao⟩:=he;rw[jd av]at U;refine⟨_,_,⟨yt d J,U,rfl⟩,ao,?_,h.n,nN _ _ _ _ _,l7 d (aF d rfl)⟩;rw[jd av];exact Bf av d _ _ _ _ _ _
  |alloc d key z=>
   cases key with
   |some m=>simp only[kO,eJ,my,false_and]at he
   |none=>simp only[kO,eJ,my,p7]at he;obtain⟨J,U,ao⟩:=he;exact⟨_,_,⟨yt d J,rfl⟩,ao,Bf av d _ _ _ _ _ _,h.n,nN _ _ _ _ _,l7 d (aF d rfl)⟩
  |store sz u v=>
   simp only[kO,eJ]at he;cases hu:cy st.t u with
   |ptr k off=>
    cases ab:look k st.b with
    |none=>simp[hu,ab]at he
    |some cs=>simp only[hu,ab]at he;obtain⟨J,U,ao⟩:=he;rw[jd av]at U hu;refine⟨⟨none,.junk,[(k,oQ cs off (cells (dC A.t v)))],[],none⟩,_,⟨k,off,cs,hu,by rw[<-av.b];exact ab,U,rfl⟩,ao,?_,h.n,rz _ _ _ _,h.o⟩;rw[jd av];exact HW av k _ _
   |_=>
    exfalso;simp only[hu]at he;split at he
    ·have:=he.1;simp[my,hu]at this
    ·exact he
  |bsl d sz el xs=>simp only[kO,eJ,my,p7]at he;obtain⟨J,U,ao⟩:=he;rw[vb av]at U;refine⟨_,_,⟨yt d J,U,rfl⟩,ao,?_,h.n,nN _ _ _ _ _,l7 d (aF d rfl)⟩;rw[vb av];exact xc av d _ _ _ _ _ _
  |app d sz el u v=>
   simp only[kO,eJ]at he;cases hu:cy st.t u with
   |slice dH tag xs=>
    cases ay:cy st.t v with
    |slice jE lA ys=>
     simp only[hu,ay]at he;by_cases fo:dH=sz/\jE=sz
     ·obtain⟨rfl,rfl⟩:=fo;rw[jd av]at hu ay;cases tag with
      |no=>simp at he
      |tr k j=>simp at he
      |lo k=>simp at he
      |nil=>simp only[and_self,if_true,my,jd av,hu,p7]at he;obtain⟨J,U,ao⟩:=he;exact⟨_,_,⟨.nil,xs,lA,ys,hu,ay,.inr ⟨rfl,U,yt d J,rfl⟩⟩,ao,xc av d _ _ _ _ _ _,h.n,nN _ _ _ _ _,l7 d (aF d rfl)⟩
      |own k=>
       cases ae:look k st.e with
       |none=>simp[ae]at he
       |some o=>simp only[and_self,if_true,ae]at he;obtain⟨J,U,ao⟩:=he;exact⟨_,_,⟨.own k,xs,lA,ys,hu,ay,.inl ⟨k,o,rfl,by rw[<-av.e];exact ae,⟨by simpa[my,jd av,hu,ae]using J,U⟩,rfl⟩⟩,ao,xc av d _ _ _ _ _ _,h.n,rz _ _ _ _,h.o⟩
     ·simp[fo]at he
    |_=>simp[hu,ay]at he
   |_=>simp[hu]at he
  |bslm d key sz el xs=>simp only[kO,eJ,my,false_and]at he
  |mks d key sz el z x=>simp only[kO,eJ,my,false_and]at he;split at he<;>simp at he
  |appm d key sz el u v=>
   simp only[kO,eJ]at he;cases hu:cy st.t u with
   |row dH k n=>
    cases ay:cy st.t v with
    |slice jE lA ys=>
     simp only[hu,ay,tI]at he;by_cases fo:dH=sz/\jE=sz
     ·obtain⟨rfl,rfl⟩:=fo;rw[jd av]at hu ay;simp only[and_self,if_true]at he;cases ae:look k st.e with
      |none=>simp[ae]at he
      |some o=>
       obtain⟨n',gi,xD,NZ⟩:=o;cases NZ with
       |none=>simp[ae]at he
       |some xs=>
        simp only[ae]at he;by_cases rA:n'=n/\gi=el/\xD=jE
        ·obtain⟨rfl,rfl,rfl⟩:=rA;simp only[and_self,if_true]at he;obtain⟨J,U,ao⟩:=he;exact⟨_,_,⟨k,n',xs,lA,ys,hu,ay,by rw[<-av.e];exact ae,U,rfl⟩,ao,xc av d _ _ _ _ _ _,h.n,rz _ _ _ _,h.o⟩
        ·simp[rA]at he
     ·simp[fo]at he
    |_=>simp[hu,ay,tI]at he
   |slice dH tag xs=>
    exfalso;simp only[hu]at he;split at he
    ·have:=he.1;simp[my,hu]at this
    ·exact he
   |_=>simp[hu,tI]at he
  |storeE sz u v=>
   simp only[kO,eJ]at he;cases hu:cy st.t u with
   |rptr dH k n i f=>
    cases ae:look k st.e with
    |none=>simp[hu,rU,ae]at he
    |some o=>
     obtain⟨n',el,xD,NZ⟩:=o;cases NZ with
     |none=>simp[hu,rU,ae]at he
     |some xs=>
      simp only[hu,rU,ae]at he;by_cases rA:n'=n/\xD=dH
      ·obtain⟨rfl,rfl⟩:=rA;simp only[and_self,if_true]at he;cases bt:xs[i]? with
       |none=>simp[bt]at he
       |some q=>simp only[bt]at he;obtain⟨J,U,ao⟩:=he;rw[jd av]at U hu;refine⟨⟨none,.junk,[],[(k,⟨n',el,xD,some (xs.set i (qw q f (cells (dC A.t v))))⟩)],none⟩,_,⟨k,n',i,f,el,xD,xs,q,hu,by rw[<-av.e];exact ae,bt,U,rfl⟩,ao,?_,h.n,rz _ _ _ _,h.o⟩;rw[jd av];exact WV av k _ _
      ·simp[rA]at he
   |_=>simp[hu,rU]at he
  |mkmap d key=>
   cases key with
   |none=>simp only[kO,eJ,my,false_and]at he
   |some m=>
    simp only[kO,eJ,my,p7]at he;obtain⟨⟨bE,J,U⟩,_,ao⟩:=he;rw[av.b]at J;rw[av.e]at U;refine⟨_,_,⟨⟨jY m bE J U,J,U⟩,rfl⟩,ao,Bf av d _ _ _ _ _ _,h.n,nN _ _ _ _ _,fun k ae=>?_⟩;rcases e7.1 ae with rfl|ae
    ·exact .inr (.inr ⟨m,bE,rfl⟩)
    ·exact h.o k ae
  |mput ch u k v=>
   simp only[kO,eJ,my]at he;cases hu:cy st.t u with
   |gmap m=>
    cases ab:look m st.b with
    |none=>simp[hu,ab]at he
    |some cs=>
     cases hm:pH ch (cy st.t k) (cy st.t v) cs with
     |none=>simp[hu,ab,hm]at he
     |some cs'=>simp only[hu,ab,hm]at he;rw[jd av]at hu;rw[jd av,jd av]at hm;exact⟨⟨none,.junk,[(m,cs')],[],none⟩,_,⟨m,cs,cs',hu,by rw[<-av.b];exact ab,hm,rfl⟩,he.2.2,HW av m _ _,h.n,rz _ _ _ _,h.o⟩
   |_=>simp[hu]at he
  |range d key x=>simp only[kO,my,false_and]at he;split at he<;>exact he.elim
 |next d x=>simp only[kO]at he
 |call d f xs=>
  simp only[kO]at he;cases aQ:cy st.t f with
  |func n dt=>
   simp only[aQ]at he;rw[jd av]at aQ;rcases he with⟨cN,r,rfl,b0,cu,dg,ku⟩|⟨s,ah,r,rm,b0,cu,dg,ku,lg,oA,CE,acb,acd⟩
   ·rw[vb av]at cu dg;have au:=h.n;subst au;refine⟨⟨some cN,r,[],[],some (.loc (st.n+cN))⟩,_,⟨n,dt,aQ,.inr ⟨cN,r,rfl,yt cN b0,cu,dg,rfl⟩⟩,ku,WW av cN r _ _,rfl,nN _ _ _ _ _,l7 cN (aF cN rfl)⟩
   rw[vb av]at oA CE;obtain⟨aP,bd,bS,ea,dj⟩:=lg;refine⟨⟨d,r,ah.b,ah.e,rm⟩,_,⟨n,dt,aQ,.inl ⟨⟨s,ah,r,rm,fun k cs ae=>⟨by rw[<-av.b];exact(b0 k cs ae).1,(b0 k cs ae).2.2⟩,fun k o ae=>⟨by rw[<-av.e];exact(cu k o ae).1,(cu k o ae).2.2⟩,dg,ku,⟨aP,bd,bS,ea,fun k ae=>?_⟩,oA,CE,rfl⟩,acb⟩⟩,acd,⟨fun i=>?_,fun k=>?_,fun k=>?_⟩,h.n,fun k ae af=>⟨h.F k ae af,fun rq=>?_⟩,h.o⟩
   ·obtain⟨⟨j,af,rfl⟩,aG,bG,di⟩:=dj k ae;rw[av.b]at aG;rw[av.e]at bG;exact⟨⟨j,rfl⟩,jY j af aG bG,aG,bG,di⟩
   ·simp only[after,dm.do];cases d with
    |none=>simpa[eY]using av.t i
    |some d=>simp only[eY,qc,dE,av.t]
   ·simp only[after,dm.do,iQ,yV,vJ];by_cases ag:(look k s.b).isSome
    ·have:=bS k ag;obtain⟨y,aC⟩:=fE.1 this;simp[ag,aC]
    ·cases au:look k ah.b with
     |none=>simp only[ag,av.b];cases A.b k<;>simp
     |some y=>
      rcases aP k (by simp[au])with h|h
      ·exact absurd h ag
      ·have:=dj k h;simp[ag,this]
   ·simp only[after,dm.do,iQ,yV,vJ];by_cases ag:(look k s.e).isSome
    ·have:=ea k ag;obtain⟨y,aC⟩:=fE.1 this;simp[ag,aC]
    ·cases au:look k ah.e with
     |none=>simp only[ag,av.e];cases A.e k<;>simp
     |some y=>
      rcases bd k (by simp[au])with h|h
      ·exact absurd h ag
      ·have:=dj k h;simp[ag,this]
   ·obtain⟨⟨j,jL,rfl⟩,_⟩:=dj k rq;exact af j jL rfl
  |_=>simp[aQ]at he
def Ag(N:Nat):List dc->Bool
 |[]=>true
 |g::r=>jJ N g.i.dst&&Ag N r
def zJ:Nat->List dc->List (Nat×dc)
 |_,[]=>[]
 |k,g::r=>(k,g)::zJ (k+1) r
theorem Qq{nw:List Nat}{n0 N:Nat}{qq:List aM}{st:br}{A:dm}(h:tC nw n0 N qq st A){s:Nat}{p:ak}(ag:get s st.t=p):tC nw n0 N qq {st with t:=put s p st.t} A:=by
 refine⟨⟨fun i=>?_,h.like.b,h.like.e⟩,h.n,h.F,h.o⟩;simp only[qc];split
 ·rename_i e;subst e;rw[<-ag];exact h.like.t _
 ·exact h.like.t i
theorem Qr{nw:List Nat}{n0 N:Nat}{qq:List aM}{st:br}{A:dm}(h:tC nw n0 N qq st A)(d:Option Nat):tC nw n0 N qq {st with t:=eY d (.tuple []) st.t} (A.do (lT d)):=by
 refine⟨⟨fun i=>?_,fun k=>?_,fun k=>?_⟩,h.n,fun k ae af=>⟨h.F k ae af,by simp[lT]⟩,h.o⟩
 ·simp only[dm.do,lT];cases d with
  |none=>simpa[eY]using h.like.t i
  |some d=>simp only[eY,qc,dE,h.like.t]
 ·simpa[dm.do,iQ,look,lT]using h.like.b k
 ·simpa[dm.do,iQ,look,lT]using h.like.e k
theorem CQ{P:cJ}{q:Bool}{nw:List Nat}{n0 N:Nat}{qq:List aM}{K:br->Prop}:∀(gs:List dc) (k:Nat),Ag N gs=true->∀(st:br) (A:dm),tC nw n0 N qq st A->Cp nw A->h8 P q nw n0 gs st K->wx P q n0 (fun gy=> ∃st',K st'/\tC nw n0 N qq st' gy) (zJ k gs) A
 |[],k,_,st,A,h,_,he=>⟨st,he,h⟩
 |⟨nM,i⟩::r,k,aF,st,A,h,jY,he=>by
  simp only[Ag,cr]at aF;have tX:∀d,i.dst=some d->d<N:=fun d e=>by have:=aF.1;rw[e]at this;simpa[jJ]using this
  simp only[zJ,wx];cases nM with
  |none=>simp only[h8]at he;obtain⟨x,st',J,U,ao⟩:=Tv tX h jY he;have aX:lb P q n0 ⟨none,i⟩ A x:=J;exact⟨x,aX,CQ r (k+1) aF.2 st' _ ao (jY.do aX) U⟩
  |some zw=>
   obtain⟨s,want⟩:=zw;simp only[h8]at he;split at he
   ·rename_i b ab;by_cases e:b=want
    ·subst e;obtain⟨x,st',J,U,ao⟩:=Tv tX (Qq h ab) jY (he.1 rfl);have aX:lb P q n0 ⟨some (s,b),i⟩ A x:=by unfold lb;simp only[<-h.like.t,ab];exact .inl ⟨trivial,J⟩
     exact⟨x,aX,CQ r (k+1) aF.2 st' _ ao (jY.do aX) U⟩
    ·have gk:b= !want:=by cases b<;>cases want<;>simp at e⊢
     subst gk;have aX:lb P q n0 ⟨some (s,want),i⟩ A (lT i.dst):=by unfold lb;simp only[<-h.like.t,ab];exact .inr ⟨trivial,trivial⟩
     exact⟨lT i.dst,aX,CQ r (k+1) aF.2 _ _ (Qr (Qq h ab) i.dst) (jY.do aX) (he.2 rfl)⟩
   ·rename_i ab;have aX:lb P q n0 ⟨some (s,want),i⟩ A (lT i.dst):=by unfold lb;simp only[<-h.like.t,ab]
    exact⟨lT i.dst,aX,CQ r (k+1) aF.2 _ _ (Qr h i.dst) (jY.do aX) he⟩
   ·exact he.elim
theorem OI:∀(gs:List dc) (l:Array Bool) (k:Nat),(∀j,l.getD j false=false)->rem l k gs=zJ k gs
 |[],_,_,_=>rfl
 |g::r,l,k,h=>by simp only[rem,h k,zJ,OI r l (k+1) h];simp
def uQ(n:Nat)(o:List aM)(K:br->Prop)(st:br):Prop:=K {st with n:=n,o:=o}
theorem Good.like{pr:Nat->Prop}{w:World}{ν:be}{b b1:List (aM×List ak)}{e fF:List (aM×fQ)}(h:Good pr w ν b e)(ab:∀k,look k b1=look k b)(he:∀k,look k fF=look k e):Good pr w ν b1 fF:=
 ⟨h.alt,fun k cs ae=>h.box k cs (by rw[<-ab];exact ae),fun k bH bl J U=>h.inj k bH bl (by rw[<-ab];exact J) (by rw[<-ab];exact U),fun g o aX=>h.own g o (by rw[<-he];exact aX),
  fun g fc n n' v v' bl J U=>h.oinj g fc n n' v v' bl (by rw[<-he];exact J) (by rw[<-he];exact U),fun g k n v bl J U=>h.obx g k n v bl (by rw[<-he];exact J) (by rw[<-ab];exact U),h.one,
  fun bl aH=>h.otr bl (aH.imp (fun⟨k,bC,a2⟩=>⟨k,by rw[<-ab];exact bC,a2⟩) (fun⟨g,n,v,bC,a2⟩=>⟨g,n,v,by rw[<-he];exact bC,a2⟩))⟩
theorem Tx{P:cJ}(hm:P.follows .mixedOrders=true){bF:List (Nat×dB)}(aH:fM P bF=true){C:fj}{q:Bool}{nw:List Nat}{id:Nat}{ops:Array Oper}{gs:List dc}(kS:kQ C.N bF ops.toList gs ops.toList=true)(GV:Cy gs ops.toList=true)(je:Ag C.N gs=true)
  {K:br->Prop} {Q:Exit->Act->World->Prop} (iu:∀st' bn w' bo,K st'->cY C st' bn w' bo->Q .normal bn w') {st:br} {a:Act} {w:World} {ν:be} (aiG:∀j∈nw,.obj j∉st.o) (he:h8 P q nw st.n gs st (uQ (st.n+C.N) (nw.map aM.obj++st.o) K)) (aK:cY C st a w ν):(Code.region id ops true).wp P Q a w:=by
 refine wp_region_any hm ?_;have dp:cY C st a {w with drawn:=w.drawn+1} ν:=aK.drawn _;let A:dm:=⟨fun i=>get i st.t,fun k=>look k st.b,fun k=>look k st.e,fresh st.n st.o⟩
 have qd:tC nw st.n C.N st.o st A:=⟨⟨fun _=>rfl,fun _=>rfl,fun _=>rfl⟩,rfl,fun k ae _=>ae,fun k ae=>.inl ae⟩;have tW:=CQ gs 0 je st A qd (fun j af _ _=>⟨trivial,aiG j af⟩) he;have ps:∀j,(Array.replicate ops.size false).getD j false=false:=fun j=>by simp[Array.getD_eq_getD_getElem?,Array.getElem?_replicate];split<;>rfl
 refine abK aH kS GV (q:=q) (n0:=st.n) (K:=fun gy=> ∃st',uQ (st.n+C.N) (nw.map aM.obj++st.o) K st'/\tC nw st.n C.N st.o st' gy) ?_ ops.size _ A a _ Ψ ?_ ?_ (by rw[OI gs _ 0 ps];exact tW) ⟨st,ν,qd.like,fun k ae=>ae,dp⟩
 ·rintro gy bn w' ⟨st',ae,bm⟩ ⟨auZ,bo,oE,C7,l9⟩;refine iu _ bn w' bo ae ⟨l9.good.like (fun k=>by rw[oE.b,<-bm.like.b]) (fun k=>by rw[oE.e,<-bm.like.e]),l9.fr,l9.defers,l9.size,fun i=>?_,fun k AM=>?_⟩
  ·have:=l9.slot i;rw[oE.t,<-bm.like.t]at this;exact this
  ·refine l9.new k (C7 k (bm.F k ?_ fun j af e=>AM.2 (by subst e;exact List.mem_append_left _ (List.mem_map_of_mem af))));simp only at AM;refine⟨(Lk (Nat.le_add_right st.n C.N) (fun _ h=>h) AM).1,fun j0=>?_⟩;rcases bm.o k j0 with h|⟨d,aF,rfl⟩|⟨j,af,rfl⟩;rotate_left 2
   ·exact AM.2 (List.mem_append_left _ (List.mem_map_of_mem af))
   ·exact AM.2 (List.mem_append_right _ h)
   ·have:=AM.1;simp at this;omega
 ·intro k o ae av;rw[ps]at av;cases av
 ·rw[OI gs _ 0 ps];have:∀(gs:List dc) k,(zJ k gs).length=gs.length:=by
   intro gs;induction gs with
   |nil=>intro k;rfl
   |cons g r bR=>intro k;simp[zJ,bR]
  rw[this];have:=Lw kS;simp at this;omega
def gz:List ak->Prop
 |[]=>True
 |p::cE=>(match p with| .slice _ _ xs=>xs.length<=lim| .str s=>s.length<=lim|_=>True)/\gz cE
def fZ:ak->Prop
 | .slice _ _ xs=>xs.length<=lim
 | .str s=>s.length<=lim
 | .agg cs=>gz cs
 |_=>True
def gI:List ak->Prop
 |[]=>True
 |p::r=>fZ p/\gI r
theorem OM{w:World}{ν:be}:∀{cs:List ak} {us:List Value},dr w ν cs us->gz cs
 |[],_,_=>trivial
 |c::cs,us,h=>by
  simp only[dr]at h;obtain⟨u,ck,_,J,U⟩:=h;refine⟨?_,OM U⟩;cases c<;>simp only<;>have ao:=J.1<;>simp only[bc]at ao
  ·exact ao.2
  ·obtain⟨⟨a,cap,_,_,a6,_⟩,_⟩:=ao;exact a6.2
theorem Zl{w:World}{ν:be}{cs:List ak}{us:List Value}(h:jD w ν cs us):ie cs=true->gz cs:=fun bD=>by rw[vQ bD]at h;exact OM h
theorem Zw{w:World}{ν:be}{p:ak}{v:Value}(h:bc w ν p v):fZ p:=by
 cases p<;>simp only[fZ]<;>simp only[bc]at h
 ·exact h.2
 ·obtain⟨⟨a,cap,_,_,a6,_⟩,_⟩:=h;exact a6.2
 ·obtain⟨us,_,U⟩:=h;exact OM U
theorem OO{w:World}{ν:be}:∀{cs:List ak} {us:List Value},cT w ν cs us->gI cs
 |[],_,_=>trivial
 |c::cs,us,h=>by simp only[cT]at h;obtain⟨u,ck,_,J,U⟩:=h;exact⟨Zw J,OO U⟩
inductive C where
 |skip
 |region (gs:List dc)
 |drawn (q:Bool) (N:Nat) (gs:List dc)
 |drawnW (nw:List Nat) (N:Nat) (gs:List dc)
 |seq (a b:C)
 |cond (x:dw) (t e:C)
 |block (id:Nat) (c:C)
 |loop (c:C)
 |exit (id:Nat)
 |ret
 |pub (s:Nat) (c:C)
 |pubB (s:Nat) (c:C)
 |fg (ql:Bool) (s:Nat) (c:C)
 |fz (agg:Bool) (s:Nat) (c:C)
 |no
def EE(st:br):ak->Option (ak×List (aM×fQ))
 | .row sz k n=>match look k st.e with
  |some ⟨n',el,dH,some xs⟩=>if n'=n/\dH=sz then some (.slice sz (.own k) xs,cF k ⟨n,el,sz,none⟩ st.e)else none
  |_=>none
 |_=>none
def xt(st:br)(s:Nat):Option br:=
 match EE st (get s st.t)with
 |some (p,e)=>some {st with t:=put s p st.t,e:=e}
 |none=>none
def xr(st:br)(s:Nat):Option br:=
 match get (s%1000) st.t with
 | .ptr k off=>match look k st.b with
  |some cs=>match cs[off+s/1000]? with
   |some p=>match EE st p with
    |some (BC,e)=>if ie cs then some {st with b:=cF k (cs.set (off+s/1000) BC) st.b,e:=e}else none
    |none=>none
   |none=>none
  |none=>none
 |_=>none
theorem OH{C:fj}{st:br}{a:Act}{w:World}{ν:be}(h:cY C st a w ν){s:Nat}{p:ak}(ag:bc w ν p (a.tmps.getD s undef)):cY C {st with t:=put s p st.t} a w ν:=by
 refine⟨h.good,h.fr,h.defers,h.size,fun i=>?_,h.new⟩;have:=h.slot i;simp only[qc];split
 ·rename_i e;subst e;exact ag
 ·exact this
theorem X9{C:fj}{st:br}{a:Act}{w:World}{ν:be}(h:cY C st a w ν){p BC:ak}{e:List (aM×fQ)}{v:Value}(bD:bc w ν p v)(he:EE st p=some (BC,e)):
  ∃bo,cY C {st with e:=e} a w bo/\bc w bo BC v/\lZ w ν w bo:=by
 unfold EE at he;split at he
 ·rename_i sz k n;split at he
  ·rename_i n' el dH xs ae;split at he
   ·rename_i ar;obtain⟨rfl,rfl⟩:=ar;cases he;simp only[bc]at bD;obtain⟨_,av,n0,u,J,U,ao⟩:=bD;obtain⟨v0,fD,a1,bp,bV,cQ⟩:=h.good.own k _ ae;rw[J]at a1;simp only[dE,jU]at a1;obtain⟨rfl,rfl⟩:=a1;have ay:v=u:=ao rfl;subst ay;obtain⟨cZ,_,_⟩:=cQ xs rfl;simp only at cZ;obtain⟨g1,g2⟩:=h.publish ae rfl J (by rw[cZ];exact av);refine⟨_,g1,g2,⟨fun b o bg=>⟨.inl bg,rfl⟩,fun j b _ af=>af,fun g n u _ jf=>⟨n,u,?_,.inl ⟨rfl,rfl⟩⟩,fun _ _ _=>rfl,fun _ _ _ _ h=>h⟩⟩;simp only[be.withRowOf];split
    ·rename_i e;subst e;rw[J]at jf;exact jf
    ·exact jf
   ·cases he
  ·cases he
 ·cases he
def Ao(ql:Bool):ak->ak
 | .slice sz tag xs=>.slice sz (if ql then tag else .no) (c7 xs)
 |p=>eb p
theorem aga{w:World}{ν:be}{ql:Bool}{p:ak}{v:Value}(h:bc w ν p v):bc w ν (Ao ql p) v:=by
 have J:=lz p v h;cases p with
 |slice sz tag xs=>
  simp only[Ao];cases ql with
  |false=>simpa only[gZ,if_false,eb]using J
  |true=>
   simp only[if_true];simp only[bc,eb]at h J⊢;refine⟨J.1,fun e=>h.2.1 e,fun g e=>?_,fun k j e=>?_,fun k e=>?_⟩
   ·obtain⟨n,u,aq,aG,bG⟩:=h.2.2.1 g e;exact⟨n,u,aq,by rw[tp];exact aG,by rw[tp];exact bG⟩
   ·exact T9 _ _ (h.2.2.2.1 k j e)
   ·exact T9 _ _ (h.2.2.2.2 k e)
 |_=>exact J
theorem anx{C:fj}{st st':br}{a:Act}{w:World}{ν:be}(h:cY C st a w ν){s:Nat}(he:xt st s=some st'):∃bo,cY C st' a w bo:=by
 unfold xt at he;split at he
 ·rename_i p e bD;cases he;obtain⟨bo,J,U,_⟩:=X9 h (h.slot s) bD;exact⟨_,OH J U⟩
 ·cases he
theorem Zs{w:World}{ν:be}:∀{cs:List ak} {us:List Value} {i:Nat} {p q:ak} {v:Value},dr w ν cs us->cs[i]? =some p->us[i]? =some v->bc w ν q v->dr w ν (cs.set i q) us
 |[],_,_,_,_,_,_,h,_,_=>by simp at h
 |c::cs,us,0,p,q,v,h,_,ay,bt=>by simp only[dr]at h;obtain⟨u,ck,rfl,J,U⟩:=h;simp only[List.getElem?_cons_zero,dE]at ay;subst ay;simp only[List.set_cons_zero,dr];exact⟨_,_,rfl,⟨bt,J.2⟩,U⟩
 |c::cs,us,i+1,p,q,v,h,bD,ay,bt=>by simp only[dr]at h;obtain⟨u,ck,rfl,J,U⟩:=h;simp only[List.set_cons_succ,dr];exact⟨_,_,rfl,J,Zs U (by simpa using bD) (by simpa using ay) bt⟩
theorem anw{C:fj}{st st':br}{a:Act}{w:World}{ν:be}(h:cY C st a w ν){s:Nat}(he:xr st s=some st'):∃bo,cY C st' a w bo:=by
 unfold xr at he;split at he
 ·rename_i k ald ae;generalize ald+s/1000=off at he;split at he
  ·rename_i cs dn;split at he
   ·rename_i p bD;split at he
    ·rename_i BC e Hg;split at he
     ·rename_i uh;cases he;obtain⟨bl,us,el,g1,g2,g3,g4,g5⟩:=h.good.box k cs dn;rw[vQ uh]at g5;have bz:off<us.toList.length:=by rw[qu g5];exact(eS.1 bD).1
      obtain⟨v,ay⟩:∃v,us.toList[off]? =some v:=⟨_,bY bz⟩;have AV:bc w ν p v:=by have:=BS off g5;rw[k8 (eS.1 bD).1,k8 bz]at this;simp only[dr]at this;obtain⟨u,ck,aq,aG,_⟩:=this;rw[(eS.1 bD).2]at aG;rw[(eS.1 ay).2]at aq;cases aq;exact aG.1
      obtain⟨bo,J,U,ao⟩:=X9 h AV Hg;have wV:dr w bo (cs.set off BC) us.toList:=Zs (Zr ao g5) bD ay U;have Vs:=BU wV;refine⟨bo,⟨J.good.alt,fun j eU af=>?_,fun j dG b af jL=>J.good.inj j dG b ?_ ?_,J.good.own,J.good.oinj,fun g j n v b aX af=>J.good.obx g j n v b aX ?_,J.good.one,fun bl ab=>J.good.otr bl (ab.imp (fun⟨bH,bC,a2⟩=>⟨bH,by rw[jh]at bC;split at bC;(rename_i e;subst e;simp[dn]);exact bC,a2⟩) id)⟩,J.fr,J.defers,J.size,J.slot,J.new⟩
      ·simp only at af;rw[jh]at af;split at af
       ·rename_i e;subst e;cases af;obtain⟨iP,ck,gi,f1,f2,f3,f4,f5⟩:=J.good.box k cs dn;have:iP=bl:=by have:=ao.bx k bl trivial g1;rw[this]at f1;cases f1;rfl
        subst this;rw[vP uh]at g4 f4;rw[g4]at f4;injection f4 with f4;injection f4 with f4 f6 f7;refine⟨iP,us,el,f1,f2,f3,by rw[vP Vs];exact g4,by rw[vQ Vs];exact wV⟩
       ·exact J.good.box j eU af
      ·simp only at af;rw[jh]at af;split at af
       ·rename_i e;subst e;simp[dn]
       ·exact af
      ·simp only at jL;rw[jh]at jL;split at jL
       ·rename_i e;subst e;simp[dn]
       ·exact jL
      ·simp only at af;rw[jh]at af;split at af
       ·rename_i e;subst e;simp[dn]
       ·exact af
     ·cases he
    ·cases he
   ·cases he
  ·cases he
 ·cases he
def tM{α:Type}(k:aM)(l:List (aM×α)):List (aM×α):=match l with
 |[]=>[]
 |(i,x)::r=>if i=k then tM k r else(i,x)::tM k r
theorem M6{α:Type}(k j:aM):∀l:List (aM×α),look j (tM k l)=if j=k then none else look j l
 |[]=>by simp[tM,look]
 |(i,x)::r=>by
  simp only[tM];by_cases h:i=k
  ·subst h;rw[if_pos rfl,M6 i j r];by_cases U:j=i
   ·simp[U]
   ·have:¬i=j:=fun e=>U e.symm;simp[look,U,this]
  ·rw[if_neg h];simp only[look];by_cases U:i=j
   ·subst U;simp[h]
   ·simp only[U,if_false];exact M6 k j r
def Ln(agg:Bool):List ak->Option ak
 |[p]=>if agg then some (.agg [p])else some p
 |cs=>if agg then some (.agg cs)else none
def wB(st:br)(agg:Bool)(s:Nat):Option br:=
 match get s st.t with
 | .ptr k 0=>match look k st.b with
  |some cs=>if ie cs then match Ln agg cs with
    |some x=>some {st with t:=put s (.eptr x) st.t,b:=tM k st.b}
    |none=>none
   else none
  |none=>none
 |_=>none
theorem ane{u:Value}(h:u.oneCell'=true):u.cells.toList=[u]:=by cases u<;>first|rfl|(simp[Value.oneCell']at h)
theorem WM{w:World}{A:Nat->Nat->Prop}{b:Nat}{us:Array Value}{el:ha}(ab:w.heap[b]? =some (.cells us el))(bg:∀o,o<us.size->A b o):∀(a7:List Value) (off:Nat),us.toList.drop off=a7->mj w A b off a7
 |[],_,_=>trivial
 |v::a7,off,h=>by
  have bz:off<us.toList.length:=by
   rcases Nat.lt_or_ge off us.toList.length with J|J
   ·exact J
   ·rw[List.drop_eq_nil_of_le J]at h;cases h
  have U:=k8 bz;rw[h]at U;injection U with U ao;refine⟨⟨bg off (by simpa using bz),?_⟩,WM ab bg a7 (off+1) ao.symm⟩;have wQ:off<us.size:=by simpa using bz
  simp only[World.cell?,ab,jG,gZ,if_false];rw[U];simp[wQ]
theorem ags{C:fj}{st st':br}{a:Act}{w:World}{ν:be}(h:cY C st a w ν){agg:Bool}{s:Nat}(he:wB st agg s=some st'):∃bo,cY C st' a w bo:=by
 unfold wB at he;split at he
 ·rename_i k ae;split at he
  ·rename_i cs dn;split at he
   ·rename_i uh;split at he
    ·rename_i x ad;cases he;obtain⟨bl,us,el,g1,g2,g3,g4,g5⟩:=h.good.box k cs dn;rw[vQ uh]at g5;rw[vP uh]at g4;have bz:bl<w.heap.size:=by
      rcases Nat.lt_or_ge bl w.heap.size with J|J
      ·exact J
      ·rw[Array.getElem?_eq_none J]at g4;cases g4
     let bo:be:={ν with A:=fun b o=>ν.A b o\/(b=bl/\o<us.size)}
     have aw:lZ w ν w bo:=⟨fun b o bg=>⟨.inl bg,rfl⟩,fun j b _ af=>af,fun g n u _ jf=>⟨n,u,jf,.inl ⟨rfl,rfl⟩⟩,fun _ _ _=>rfl,fun _ _ _ _ h=>h⟩;have hW:∀j eU,look j (tM k st.b)=some eU->j≠k/\look j st.b=some eU:=fun j eU af=>by
      rw[M6]at af;split at af
      ·cases af
      ·rename_i e;exact⟨e,af⟩
     have G9:∀j,(look j (tM k st.b)).isSome->(look j st.b).isSome:=fun j af=>by obtain⟨eU,je⟩:=fE.1 af;simp[(hW j eU je).2]
     have qI:∀(g:aM) (n:Nat) (v:Value),(look g st.e).isSome->ν.ow g=some (n,v)->v.ownBlock=some bl->eB:=fun g n v J U ao=>h.good.obx g k n v bl J (by simp[dn]) U ao g1;have nV:bc w bo (.eptr x) (a.tmps.getD s undef):=by
      have ag:=h.slot s;rw[ae]at ag;simp only[bc]at ag⊢;obtain⟨b1,a1,bp⟩:=ag;rw[g1]at a1;cases a1;have av:mj w bo.A bl 0 us.toList:=WM g4 (fun o aw=>.inr ⟨rfl,aw⟩) _ 0 rfl;have g6:dr w bo cs us.toList:=Zr aw g5;unfold Ln at ad;split at ad
      ·rename_i p;simp only[dr]at g6;obtain⟨u,ck,aq,aG,bG⟩:=g6;subst bG;split at ad
       ·cases ad;exact⟨bl,0,.agg us,bp,by simp only[bc];exact⟨us,rfl,by rw[aq];simp only[dr];exact⟨u,[],rfl,aG,rfl⟩⟩,by simpa[pS]using av⟩
       ·cases ad;refine⟨bl,0,u,bp,aG.1,?_⟩;rw[ane aG.2,<-aq];exact av
      ·split at ad
       ·cases ad;exact⟨bl,0,.agg us,bp,by simp only[bc];exact⟨us,rfl,g6⟩,by simpa[pS]using av⟩
       ·cases ad
     refine⟨bo,OH (ν:=bo) (st:={st with b:=tM k st.b}) ⟨⟨fun b o bg=>?_,fun j eU af=>?_,fun j dG b J U=>h.good.inj j dG b (G9 j J) (G9 dG U),fun g o aX=>?_,h.good.oinj,fun g j n v b J U=>h.good.obx g j n v b J (G9 j U),h.good.one,fun b aH=>h.good.otr b (aH.imp (fun⟨j,bC,a2⟩=>⟨j,G9 j bC,a2⟩) id)⟩,⟨h.fr.os,h.fr.tape,h.fr.output,h.fr.size,h.fr.block,fun b o bg=>⟨.inl (h.fr.keep b o bg).1,(h.fr.keep b o bg).2⟩,fun b o bg=>?_,h.fr.obj,h.fr.obn,h.fr.row,h.fr.obr,h.fr.trd,h.fr.trb,h.fr.trn,h.fr.sh⟩,h.defers,h.size,fun i=>zm aw (h.slot i),h.new⟩ nV⟩
     ·rcases bg with bg|⟨rfl,_⟩
      ·exact h.good.alt b o bg
      ·exact bz
     ·obtain⟨cK,jL⟩:=hW j eU af;obtain⟨iP,ck,gi,f1,f2,f3,f4,f5⟩:=h.good.box j eU jL;refine⟨iP,ck,gi,f1,f2,fun o bg=>?_,f4,qZ aw f5⟩;rcases bg with bg|⟨rfl,_⟩
      ·exact f3 o bg
      ·exact cK (h.good.inj j k _ (by simp[jL]) (by simp[dn]) f1 g1)
     ·obtain⟨v0,fD,aq,aG,bG,di⟩:=h.good.own g o aX;have wE:∀b,v0.ownBlock=some b->∀j,bo.A b j->ν.A b j:=fun b ab j bg=>by
       rcases bg with bg|⟨rfl,_⟩
       ·exact bg
       ·exact(qI g _ v0 (by simp[aX]) aq ab).elim
      exact⟨v0,fD,aq,aG,fun b ab=>⟨(bG b ab).1,fun j bg=>(bG b ab).2 j (wE b ab j bg)⟩,te aw wE di⟩
     ·rcases bg with bg|⟨rfl,_⟩
      ·exact h.fr.fresh b o bg
      ·exact .inr g2
    ·cases he
   ·cases he
  ·cases he
 ·cases he
def td(st:br)(x:dw)(b:Bool):br:=match x with
 | .t i=>{st with t:=put i (.bool b) st.t}
 | .c _=>st
def c5(P:cJ)(ob:List aM):C->(Exit->br->Prop)->br->Prop
 | .skip,Q,st=>Q .normal st
 | .region gs,Q,st=>iq P gs st (Q .normal)
 | .drawn q N gs,Q,st=>h8 P q [] st.n gs st (uQ (st.n+N) st.o (Q .normal))
 | .drawnW nw N gs,Q,st=>(∀j∈nw,.obj j∉st.o)/\h8 P false nw st.n gs st (uQ (st.n+N) (nw.map aM.obj++st.o) (Q .normal))
 | .seq a b,Q,st=>c5 P ob a (fun e st'=>match e with| .normal=>c5 P ob b Q st'|e=>Q e st') st
 | .cond x t e,Q,st=>match cy st.t x with
  | .bool b=>(b=true->c5 P ob t Q (td st x true))/\(b=false->c5 P ob e Q (td st x false))
  |_=>eB
 | .block id c,Q,st=>c5 P ob c (fun e st'=>match e with| .exit j=>if j=id then Q .normal st' else Q (.exit j) st'|e=>Q e st') st
 | .loop c,Q,st=> ∃(hv:Nat->br->Prop) (m:Nat) (xB:br),jc ob st xB/\hv m xB/\
   ∀k s,hv k s->(∀i,fZ (get i s.t))->(∀j cs,look j s.b=some cs->ie cs=true->gz cs)->c5 P ob c (fun e ah=>match e with| .normal=> ∃bH pK,bH<k/\jc ob ah pK/\hv bH pK|e=>Q e ah) s
 | .exit id,Q,st=>Q (.exit id) st
 | .ret,Q,st=>Q .ret st
 | .pub s c,Q,st=>match xt st s with
  |some st'=>c5 P ob c Q st'
  |none=>eB
 | .pubB s c,Q,st=>match xr st s with
  |some st'=>c5 P ob c Q st'
  |none=>eB
 | .fg ql s c,Q,st=>c5 P ob c Q {st with t:=put s (Ao ql (get s st.t)) st.t}
 | .fz gh s c,Q,st=>match wB st gh s with
  |some st'=>c5 P ob c Q st'
  |none=>eB
 | .no,_,_=>eB
def hQ(N:Nat)(bF:List (Nat×dB)):C->Code->Bool
 | .skip,.skip=>true
 | .region gs,.region _ ops false=>kQ N bF ops.toList gs ops.toList
 | .drawn _ N' gs,.region _ ops true=>N'==N&&kQ N bF ops.toList gs ops.toList&&Cy gs ops.toList&&Ag N gs
 | .drawnW _ N' gs,.region _ ops true=>N'==N&&kQ N bF ops.toList gs ops.toList&&Cy gs ops.toList&&Ag N gs
 | .seq a b,.seq x y=>hQ N bF a x&&hQ N bF b y
 | .cond x t e,.cond o dO fF=>er x o&&hQ N bF t dO&&hQ N bF e fF
 | .block id c,.block DN cq=>id==DN&&hQ N bF c cq
 | .loop c,.loop cq=>hQ N bF c cq
 | .exit id,.exit DN=>id==DN
 | .ret,.ret=>true
 | .pub _ c,cq=>hQ N bF c cq
 | .pubB _ c,cq=>hQ N bF c cq
 | .fg _ _ c,cq=>hQ N bF c cq
 | .fz _ _ c,cq=>hQ N bF c cq
 | .no,_=>true
 |_,_=>false
theorem Ut{N:Nat}{bF:List (Nat×dB)}{ops:List Oper}:∀{gs:List dc} {os:List Oper},kQ N bF ops gs os=true->gs.length=os.length
 |[],[],_=>rfl
 |[],_::_,h=>by simp[kQ]at h
 |_::_,[],h=>by simp[kQ]at h
 |g::gs,o::os,h=>by simp only[kQ,cr]at h;simp[Ut h.2]
def abg(P:cJ)(C:fj)(c:Code)(Q:Exit->br->Prop)(st:br):Prop:= ∀a w ν,cY C st a w ν->c.wp P (fun e bn w'=> ∃st' bo,Q e st'/\cY C st' bn w' bo) a w
theorem rr{P:cJ}(hm:P.follows .mixedOrders=true){bF:List (Nat×dB)}(aH:fM P bF=true){X:fj}:∀(c:C) (code:Code) (Q:Exit->br->Prop) (st:br),hQ X.N bF c code=true->c5 P X.ob c Q st->abg P X code Q st
 | .skip,code,Q,st,aw,he=>by
  cases code<;>simp only[hQ]at aw<;>try cases aw
  intro a w ν aK;exact wp_skip ⟨st,ν,he,aK⟩
 | .region gs,code,Q,st,aw,he=>by
  cases code<;>try(simp[hQ]at aw;done)
  rename_i id ops draw;cases draw<;>simp only[hQ]at aw
  ·intro a w ν aK;refine wp_region ?_;have av:gs.length=ops.size:=by simpa using Ut aw
   rw[List.range_eq_range',<-av];exact Ty aH (K:=Q .normal) (fun st' bn w' bo J U=>⟨st',bo,J,U⟩) gs ops.toList 0 Ψ aw st a w ν he aK
  ·cases aw
 | .drawn q N gs,code,Q,st,aw,he=>by
  cases code<;>try(simp[hQ]at aw;done)
  rename_i id ops draw;cases draw<;>simp only[hQ]at aw
  ·cases aw
  ·simp only[cr,dQ]at aw;obtain⟨⟨⟨rfl,J⟩,U⟩,ao⟩:=aw;intro a w ν aK;exact Tx hm aH J U ao (nw:=[]) (K:=Q .normal) (fun st' bn w' bo J U=>⟨st',bo,J,U⟩) Ψ he aK
 | .drawnW nw N gs,code,Q,st,aw,he=>by
  cases code<;>try(simp[hQ]at aw;done)
  rename_i id ops draw;cases draw<;>simp only[hQ]at aw
  ·cases aw
  ·simp only[cr,dQ]at aw;obtain⟨⟨⟨rfl,J⟩,U⟩,ao⟩:=aw;intro a w ν aK;exact Tx hm aH J U ao (nw:=nw) (K:=Q .normal) (fun st' bn w' bo J U=>⟨st',bo,J,U⟩) he.1 he.2 aK
 | .seq x y,code,Q,st,aw,he=>by
  cases code<;>try(simp[hQ]at aw;done)
  rename_i p5 l1;simp only[hQ,cr]at aw;intro a w ν aK;refine wp_seq ?_;have J:=rr hm aH x p5 _ st aw.1 he a w ν aK;refine wp_mono J fun e bn w' cA=>?_;obtain⟨st',bo,bt,dp⟩:=cA;cases e with
  |normal=>exact rr hm aH y l1 Q st' aw.2 bt bn w' bo dp
  |_=>exact⟨st',bo,bt,dp⟩
 | .cond x t e,code,Q,st,aw,he=>by
  cases code<;>try(simp[hQ]at aw;done)
  rename_i o acY ce;simp only[hQ,cr]at aw;intro a w ν aK;simp only[c5]at he;have ad:=et aK aw.1.1;split at he
  ·rename_i b ab;rw[ab]at ad;simp only[bc]at ad;have DF:cY X (td st x b) a w ν:=by
    unfold td;split
    ·exact OG aK (by simpa[cy]using ab)
    ·exact aK
   refine wp_cond ad ?_;cases b
   ·exact rr hm aH e ce Q _ aw.2 (he.2 rfl) a w ν DF
   ·exact rr hm aH t acY Q _ aw.1.2 (he.1 rfl) a w ν DF
  ·exact he.elim
 | .block id c,code,Q,st,aw,he=>by
  cases code<;>try(simp[hQ]at aw;done)
  rename_i DN cq;simp only[hQ,cr,dQ]at aw;obtain⟨rfl,aw⟩:=aw;intro a w ν aK;refine wp_block ?_;refine wp_mono (rr hm aH c cq _ st aw he a w ν aK) fun e bn w' cA=>?_;obtain⟨st',bo,bt,dp⟩:=cA;cases e with
  |exit j=>
   simp only[Exit.inBlock]at bt⊢;by_cases af:j=id
   ·rw[if_pos af]at bt⊢;exact⟨st',bo,bt,dp⟩
   ·rw[if_neg af]at bt⊢;exact⟨st',bo,bt,dp⟩
  |_=>exact⟨st',bo,bt,dp⟩
 | .loop c,code,Q,st,aw,he=>by
  cases code<;>try(simp[hQ]at aw;done)
  rename_i cq;simp only[hQ]at aw;intro a w ν aK;simp only[c5]at he;obtain⟨hv,m,xB,hw,hi,h2⟩:=he;refine wp_loop_ghost (fun k a w=> ∃s ν,hv k s/\cY X s a w ν) m ⟨xB,_,hi,aK.weaker hw⟩ ?_;intro k a w wF;obtain⟨s,ν,ag,AW⟩:=wF;have J:=h2 k s ag (fun i=>Zw (AW.slot i)) (fun j cs af=>by obtain⟨bl,us,el,_,_,_,_,g5⟩:=AW.good.box j cs af;exact Zl g5);refine wp_mono (rr hm aH c cq _ s aw J a w ν AW) fun e bn w' cA=>?_;obtain⟨st',bo,bt,dp⟩:=cA;cases e with
  |normal=>obtain⟨bH,pK,aq,aG,bG⟩:=bt;exact⟨bH,aq,pK,_,bG,dp.weaker aG⟩
  |_=>exact⟨st',bo,bt,dp⟩
 | .exit id,code,Q,st,aw,he=>by
  cases code<;>try(simp[hQ]at aw;done)
  rename_i DN;simp only[hQ,dQ]at aw;subst aw;intro a w ν aK;exact wp_exit ⟨st,ν,he,aK⟩
 | .ret,code,Q,st,aw,he=>by
  cases code<;>try(simp[hQ]at aw;done)
  intro a w ν aK;exact wp_ret ⟨st,ν,he,aK⟩
 | .pub s c,code,Q,st,aw,he=>by
  simp only[hQ]at aw;simp only[c5]at he;split at he
  ·rename_i st' ag;intro a w ν aK;obtain⟨bo,J⟩:=anx aK ag;exact rr hm aH c code Q st' aw he a w bo J
  ·exact he.elim
 | .pubB s c,code,Q,st,aw,he=>by
  simp only[hQ]at aw;simp only[c5]at he;split at he
  ·rename_i st' ag;intro a w ν aK;obtain⟨bo,J⟩:=anw aK ag;exact rr hm aH c code Q st' aw he a w bo J
  ·exact he.elim
 | .fg ql s c,code,Q,st,aw,he=>by simp only[hQ]at aw;simp only[c5]at he;intro a w ν aK;exact rr hm aH c code Q _ aw he a w ν (OH aK (aga (aK.slot s)))
 | .fz gh s c,code,Q,st,aw,he=>by
  simp only[hQ]at aw;simp only[c5]at he;intro a w ν aK;split at he
  ·rename_i st' dh;obtain⟨bo,J⟩:=ags aK dh;exact rr hm aH c code Q st' aw he a w bo J
  ·exact he.elim
 | .no,code,Q,st,aw,he=>by simp only[c5]at he
inductive bW where
 |tmp (i:Nat)
 |cell (i:Nat) (agg:Bool) (sz:Nat)
def aW(st:br):bW->Option (Prop×ak)
 | .tmp i=>some (True,get i st.t)
 | .cell i agg sz=>nx st.b st.e agg sz (get i st.t)
def aU(st:br):List bW->Option (Prop×List ak)
 |[]=>some (True,[])
 |r::eM=>match aW st r,aU st eM with
  |some (c,p),some (cq,cE)=>some (c/\cq,p::cE)
  |_,_=>none
def rP(bF:List (Nat×dB)):List bW->List ResultVar->Bool
 |[],[]=>true
 | .tmp i::eM,.tmp j::os=>i==j&&rP bF eM os
 | .cell i agg sz::eM,.cell j t::os=>i==j&&(match ei bF t with|some f=>f.size==sz&&f.kind.isAgg==agg|none=>false)&&rP bF eM os
 |_,_=>false
def aT:List ak->ak
 |[p]=>p
 |cE=>.tuple cE
def Jd(tmps:Array Value):ResultVar->Sem Value
 | .tmp t=>pure (tmps.getD t undef)
 | .cell x t=>do loadVar t (<-asAddr (tmps.getD x undef))
theorem Zx(fn:Func)(tmps:Array Value):results fn tmps=(do let a7<-fn.results.mapM (Jd tmps);pure (if h:a7.size=1 then a7[0]else .tuple a7)):=by unfold results;congr 2
theorem I6{P:cJ}{bF:List (Nat×dB)}(aH:fM P bF=true){X:fj}{st:br}{a:Act}{w:World}{ν:be}(aK:cY X st a w ν):
  ∀(eM:List bW) (os:List ResultVar) (c:Prop) (cE:List ak),rP bF eM os=true->aU st eM=some (c,cE)->c->
  ∃a7,(os.mapM (Jd a.tmps)).run P w= .ok a7 w/\cT w ν cE a7
 |[],[],c,cE,_,he,_=>by simp only[aU]at he;cases he;exact⟨[],Ψ,by simp[cT]⟩
 |[],_::_,_,_,aw,_,_=>by simp[rP]at aw
 | .tmp _::_,[],_,_,aw,_,_=>by simp[rP]at aw
 | .cell _ _ _::_,[],_,_,aw,_,_=>by simp[rP]at aw
 |r::eM,o::os,c,cE,aw,he,ar=>by
  simp only[aU]at he;split at he
  ·rename_i b0 p cu X8 J U;cases he;cases r with
   |tmp i=>
    cases o with
    |cell _ _=>simp[rP]at aw
    |tmp j=>simp only[rP,cr,dQ]at aw;obtain⟨rfl,aw⟩:=aw;simp only[aW]at J;cases J;obtain⟨a7,g1,g2⟩:=I6 aH aK eM os cu X8 aw U ar.2;refine⟨a.tmps.getD i undef::a7,?_,by simp only[cT];exact⟨_,_,rfl,aK.slot i,g2⟩⟩;simp only[List.mapM_cons,fO,Jd,gF,fT,g1]
   |cell i agg sz=>
    cases o with
    |tmp _=>simp[rP]at aw
    |cell j t=>
     simp only[rP,cr,dQ]at aw;obtain⟨⟨rfl,ao⟩,aw⟩:=aw;split at ao
     ·rename_i f aQ;simp only[cr,dQ]at ao;obtain⟨rfl,rfl⟩:=ao;simp only[aW]at J;obtain⟨a7,g1,g2⟩:=I6 aH aK eM os cu X8 aw U ar.2;obtain⟨v,f1,f2⟩:=HX aH aK.good aQ (aK.slot i) J ar.1;have DB:∃tG,a.tmps.getD i undef= .pointer (some tG):=by
       have ag:=aK.slot i;unfold nx at J;split at J
       ·rename_i dH k n w1 si ae;rw[ae]at ag;simp only[bc]at ag;obtain⟨⟨b,o,e⟩,_⟩:=ag;exact⟨_,e⟩
       ·rename_i k off ae;rw[ae]at ag;simp only[bc]at ag;obtain⟨b,_,e⟩:=ag;exact⟨_,e⟩
       ·rename_i q ae;rw[ae]at ag;simp only[bc]at ag;obtain⟨b,off,u,e,_⟩:=ag;exact⟨_,e⟩
       ·cases J
      obtain⟨tG,Dc⟩:=DB;rw[Dc]at f1;simp only[Instr.loadAt,Instr.sureAddr,fO,gF,fT]at f1;refine⟨v::a7,?_,by simp only[cT];exact⟨_,_,rfl,f2,g2⟩⟩;have ahA:(asAddr (.pointer (some tG)):Sem Addr).run P w= .ok tG w:=rfl;simp only[List.mapM_cons,fO,Jd,gF,fT,g1,Dc,ahA,f1]
     ·cases ao
  ·cases he
theorem zk{w:World}{ν:be}:∀{cE:List ak} {a7:List Value},cT w ν cE a7->a7.length=cE.length
 |[],a7,h=>by simp only[cT]at h;subst h;rfl
 |p::cE,a7,h=>by simp only[cT]at h;obtain⟨u,ck,rfl,_,U⟩:=h;simp[zk U]
def j8:Nat->List ak->List (Nat×ak)
 |_,[]=>[]
 |i,p::cE=>(i,p)::j8 (i+1) cE
theorem GL:∀(cE:List ak) (i j:Nat),get j (j8 i cE)=if i<=j/\j<i+cE.length then cE.getD (j-i) .junk else .junk
 |[],i,j=>by simp[j8,get]
 |p::cE,i,j=>by
  simp only[j8,get];by_cases h:i=j
  ·subst h;simp
  ·rw[if_neg h,GL cE (i+1) j];by_cases U:i<=j/\j<i+(p::cE).length
   ·rw[if_pos U,if_pos (by simp at U⊢;omega)];have:j-i=(j-(i+1))+1:=Ω
    rw[this];simp
   ·rw[if_neg U,if_neg (by simp at U⊢;omega)]
def kh{α:Type}(ah:cR):List (aM×α)->Prop
 |[]=>True
 |(k,_)::r=>inObs ah k/\kh ah r
theorem A9{α:Type}{ah:cR}:∀{l:List (aM×α)},kh ah l->∀k,(look k l).isSome->inObs ah k
 |[],_,k,h=>by simp[look]at h
 |(i,x)::r,ae,k,h=>by
  simp only[kh]at ae;simp only[look]at h;split at h
  ·rename_i e;subst e;exact ae.1
  ·exact A9 ae.2 k h
def cP(eM:List bW)(s:cR)(Q:ak->cR->Prop)(e:Exit)(st:br):Prop:=
 (e= .ret\/e= .normal)/\match aU st eM with
  |some (c,cE)=>c/\∃ah,kh ah s.b/\kh ah s.e/\gL (inObs ah) ah.b st.b/\oa (inObs ah) ah.e st.e/\iV ah/\aJ (inObs ah) (eb (aT cE))/\Q (eb (aT cE)) ah
  |none=>eB
theorem bI.of{P:cJ}(hm:P.follows .mixedOrders=true){bF:List (Nat×dB)}(aH:fM P bF=true){f:FuncId}{fn:Func}(aQ:P.funcs[f]? =some fn){code:Code}(ab:fn.body=some code)(AP:(fn.name== "runtime.NumGoroutine")=false){c:C}(ar:hQ fn.ntmps bF c code=true){eM:List bW}(AW:rP bF eM fn.results.toList=true)
  {args:List ak} (av:args.length<=fn.ntmps) {s:cR} (qi:iV s) {Q:ak->cR->Prop} (he:gI args->(∀j cs,look j s.b=some cs->ie cs=true->gz cs)->c5 P (c3 s) c (cP eM s Q) ⟨j8 0 args,s.b,s.e,0,c3 s⟩):bI P f args s Q:=by
 intro w ν a7 aX ad aK;refine .inl ⟨⟨fn,aQ,by simp[ab],AP⟩,?_⟩;have iT:=zk aK;have kW:a7.size=args.length:=by simpa using iT
 let X:fj:=⟨w,ν,fq ν s,fn.ntmps,c3 s⟩
 have ps:∀k,fresh 0 (c3 s) k->ν.bx k=none/\ν.ow k=none/\∀j b,¬ν.tr k j b:=by
  intro k ae;cases k with
  |loc m=>exact⟨(ad _).1 (qi.1 m),(ad _).2.1 (qi.2 m),(ad _).2.2⟩
  |obj m=>
   simp only[fresh,true_and]at ae;refine⟨?_,?_,(ad _).2.2⟩
   ·refine(ad _).1 ?_;cases h:look (.obj m) s.b with
    |none=>rfl
    |some x=>exact absurd (uz (.inl (by simp[h]))) ae
   ·refine(ad _).2.1 ?_;cases h:look (.obj m) s.e with
    |none=>rfl
    |some x=>exact absurd (uz (.inr (by simp[h]))) ae
 have jw:∀m,(ν.bx (.obj m)≠none\/ν.ow (.obj m)≠none)-> .obj m∈c3 s:=by
  intro m hm;refine Classical.byContradiction fun ar=>?_;obtain⟨J,U,_⟩:=ps (.obj m) ⟨trivial,ar⟩;rcases hm with hm|hm
  ·exact hm J
  ·exact hm U
 have pw:cY X ⟨j8 0 args,s.b,s.e,0,c3 s⟩ {tmps:=a7++Array.replicate (fn.ntmps-a7.size) undef,defers:=[]} w ν:=by
  refine⟨⟨aX.alt,fun k cs ae=>?_,aX.inj,fun g o dR=>?_,aX.oinj,aX.obx,aX.one,aX.otr⟩,⟨rfl,rfl,rfl,eu _,fun _ _ _=>rfl,fun b o h=>⟨h,rfl⟩,fun b o h=>.inl h,fun n b h=>h,fun n b h=>jw n (.inl (by rw[h];simp)),fun m n u h=>⟨n,u,h,.inl ⟨rfl,rfl⟩⟩,fun m n u h=>jw m (.inr (by rw[h];simp)),fun k j _ _ b h=>absurd h ((ad k).2.2 j b),fun k j b h=>absurd h ((ad k).2.2 j b),fun k j b h=>absurd h ((ad k).2.2 j b),fun _ _ _=>rfl⟩,rfl,?_,fun i=>?_,ps⟩
  ·obtain⟨bl,us,el,g1,g2,g3⟩:=aX.box k cs ae;exact⟨bl,us,el,g1,.inl g2,g3⟩
  ·obtain⟨v,us,g1,g2,g3,g4⟩:=aX.own g o dR;exact⟨v,us,g1,g2,fun bl fm=>⟨.inl (g3 bl fm).1,(g3 bl fm).2⟩,g4⟩
  ·show(a7++Array.replicate (fn.ntmps-a7.size) undef).size=fn.ntmps;simp;omega
  ·rw[GL];by_cases hi:i<args.length
   ·rw[if_pos Ω];have rD:args[i]? =some args[i]:=bY hi;obtain⟨v,aq,aG⟩:=EP i aK rD;have ay:(a7++Array.replicate (fn.ntmps-a7.size) undef).getD i undef=v:=by
     have CL:a7[i]? =some v:=by simpa using aq
     rw[Array.getD_eq_getD_getElem?,Array.getElem?_append_left Ω,CL];rfl
    show bc w ν _ ((a7++Array.replicate (fn.ntmps-a7.size) undef).getD i undef);rw[ay];simpa[List.getD,rD]using aG
   ·rw[if_neg Ω];simp[bc]
 have vl:=he (OO aK) (fun j cs af=>by obtain⟨bl,us,el,_,_,_,_,g5⟩:=aX.box j cs af;exact Zl g5);have Mw:=rr hm aH (X:=X) c code (cP eM s Q) _ ar vl _ w ν pw;refine calls_of_wp aQ ab (wp_mono Mw fun e bn w' cA=>?_);obtain⟨st',bo,⟨sD,bt⟩,dp⟩:=cA;cases sJ:aU st' eM with
 |none=>simp[sJ]at bt
 |some x=>
  obtain⟨cq,cE⟩:=x;simp only[sJ]at bt;obtain⟨hy,ah,kb,ke,a1,bp,bV,cQ,cZ⟩:=bt;obtain⟨n9,g1,g2⟩:=I6 aH dp eM fn.results.toList cq cE AW sJ hy;have Hm:=zk g2;have dz:bn.defers=[]/\∃v,(results fn bn.tmps).run P w'= .ok v w'/\(fun(e:Ending) w'=> ∃v r ah bo,e= .returned v/\Q r ah/\bc w' bo r v/\Good (fun bl=>fq ν s bl\/w.heap.size<=bl) w' bo ah.b ah.e/\pe bo ah/\iV ah/\qB ⟨w,ν,fq ν s,0,c3 s⟩ w' bo) (.returned v) w':=by
   refine⟨dp.defers,?_⟩;have iF:(results fn bn.tmps).run P w'= .ok (if h:n9.toArray.size=1 then n9.toArray[0]else .tuple n9.toArray) w':=by rw[Zx];simp only[fO,Array.mapM_eq_mapM_toList,Sem.run_map,g1,fT,gF]
   refine⟨_,iF,_,eb (aT cE),ah,bo.cut (inObs ah),rfl,cZ,?_,dp.good.cut a1 bp (fun bl h _=>h),?_,bV,?_⟩
   ·have ma:bc w' bo (aT cE) (if h:n9.toArray.size=1 then n9.toArray[0]else .tuple n9.toArray):=by
     match cE,n9,g2,Hm with
     |[p],[v],g2,_=>simp only[cT]at g2;obtain⟨u,ck,aq,aG,_⟩:=g2;cases aq;simpa[aT]using aG
     |[],[],g2,_=>simp[aT,bc,cT]
     |p::dv::cE,v::v2::n9,g2,_=>rw[dif_neg Ψ];simp only[aT,bc];exact⟨_,rfl,by simpa using g2⟩
     |[_],[],_,h=>simp at h
     |[],_::_,_,h=>simp at h
     |[_],_::_::_,_,h=>simp at h
     |_::_::_,[],_,h=>simp at h
     |_::_::_,[_],_,h=>simp at h
    exact kI (o5.cut _ w' bo) _ _ cQ (lz _ _ ma)
   ·intro k;refine⟨?_,?_,?_⟩;rotate_left 2
    ·rintro j b ⟨ag,ab⟩;obtain⟨t1,t2⟩:=dp.fr.trn k j b ab;rcases ag with ag|ag<;>obtain⟨x,iH⟩:=fE.1 ag
     ·obtain⟨bl,ck,el,aq,_⟩:=dp.good.box k x (a1 k x iH).1;rw[t1]at aq;cases aq
     ·obtain⟨v',ck,aq,_⟩:=dp.good.own k x (bp k x iH).1;rw[t2]at aq;cases aq
    ·intro ae;by_cases ag:inObs ah k
     ·rw[be.cut_bx ag];rcases ag with ag|ag
      ·rw[ae]at ag;cases ag
      ·obtain⟨x,iH⟩:=fE.1 ag;obtain⟨v',ck,aq,_⟩:=dp.good.own k x (bp k x iH).1;rcases dp.good.one k with J|J
       ·exact J
       ·rw[J]at aq;cases aq
     ·exact(be.cut_no ag).1
    ·intro ae;by_cases ag:inObs ah k
     ·rw[be.cut_ow ag];rcases ag with ag|ag
      ·obtain⟨x,iH⟩:=fE.1 ag;obtain⟨bl,ck,el,aq,_⟩:=dp.good.box k x (a1 k x iH).1;rcases dp.good.one k with J|J
       ·rw[J]at aq;cases aq
       ·exact J
      ·rw[ae]at ag;cases ag
     ·exact(be.cut_no ag).2.1
   ·refine⟨dp.fr.os,dp.fr.tape,dp.fr.output,dp.fr.size,dp.fr.block,dp.fr.keep,dp.fr.fresh,fun n b h=>?_,fun n b h=>jw n (.inl (by rw[h];simp)),fun m n u h=>?_,fun m n u h=>jw m (.inr (by rw[h];simp)),fun k j bH dG b J U=>dp.fr.trd k j bH dG b J.2 U.2,fun k j b ab=>dp.fr.trb k j b ab.2,fun k j b ab=>(by rw[be.cut_bx ab.1,be.cut_ow ab.1];exact dp.fr.trn k j b ab.2),dp.fr.sh⟩
    ·have ag:inObs ah (.obj n):=by
      cases av:look (.obj n) s.b with
      |none=>rw[(ad _).1 av]at h;cases h
      |some x=>exact A9 kb _ (by simp[av])
     rw[be.cut_bx ag];exact dp.fr.obj n b h
    ·have ag:inObs ah (.obj m):=by
      cases av:look (.obj m) s.e with
      |none=>rw[(ad _).2.1 av]at h;cases h
      |some x=>exact A9 ke _ (by simp[av])
     rw[be.cut_ow ag];exact dp.fr.row m n u h
  rcases sD with rfl|rfl<;>exact dz
def b3(bF:List (Nat×dB))(c:C)(eM:List bW)(ak5:Nat)(fn:Func):Bool:=
 match fn.body with
 |some code=>hQ fn.ntmps bF c code&&rP bF eM fn.results.toList&& !(fn.name== "runtime.NumGoroutine")&&decide (ak5<=fn.ntmps)
 |none=>false
theorem bI.mk{P:cJ}(hm:P.follows .mixedOrders=true){bF:List (Nat×dB)}(aH:fM P bF=true){f:FuncId}{fn:Func}(aQ:P.funcs[f]? =some fn){c:C}{eM:List bW}{n:Nat}(eh:b3 bF c eM n fn=true)
  {args:List ak} (av:args.length<=n) {s:cR} (qi:iV s) {Q:ak->cR->Prop} (he:gI args->(∀j cs,look j s.b=some cs->ie cs=true->gz cs)->c5 P (c3 s) c (cP eM s Q) ⟨j8 0 args,s.b,s.e,0,c3 s⟩):bI P f args s Q:=by
 unfold b3 at eh;split at eh
 ·rename_i code ab;simp only[cr,pQ,en]at eh;obtain⟨⟨⟨J,U⟩,ao⟩,a6⟩:=eh;exact bI.of hm aH aQ ab ao J U (gS av a6) qi he
 ·cases eh
theorem vM:iV ⟨[],[]⟩:=⟨fun _=>rfl,fun _=>rfl⟩
def bk(eM:List bW)(r:ak)(e:Exit)(st:br):Prop:=
 (e= .ret\/e= .normal)/\match aU st eM with
  |some (c,cE)=>c/\eb (aT cE)=r
  |none=>eB
theorem bQ.mk{P:cJ}(hm:P.follows .mixedOrders=true){bF:List (Nat×dB)}(aH:fM P bF=true){f:FuncId}{fn:Func}(aQ:P.funcs[f]? =some fn){c:C}{eM:List bW}{n:Nat}(eh:b3 bF c eM n fn=true)
  {args:List ak} (av:args.length<=n) {r:ak} (aK:aJ (fun _=>eB) r) (he:gI args->c5 P [] c (bk eM r) ⟨j8 0 args,[],[],0,[]⟩):bQ P f args r:=by
 refine bI.mk hm aH aQ eh av vM fun J _=>?_;have:=he J;have iu:bk eM r=cP eM ⟨[],[]⟩ (fun eQ ah=>eQ=r/\ah=⟨[],[]⟩):=by
  funext e st;unfold bk cP;apply propext;refine and_congr_right fun _=>?_;cases aU st eM with
  |none=>exact Iff.rfl
  |some x=>
   obtain⟨c,cE⟩:=x;refine and_congr_right fun _=>?_;constructor
   ·intro h;refine⟨⟨[],[]⟩,trivial,trivial,fun k cs ae=>by simp[look]at ae,fun k cs ae=>by simp[look]at ae,vM,?_,h,rfl⟩;rw[h];exact w9 (fun k ae=>ae.elim) r aK
   ·rintro⟨ah,_,_,_,_,_,_,h,_⟩;exact h
 rw[iu]at this;exact this
theorem PY{α:Type}{β:Type}:∀l:List (aM×α),cb ([]:List (aM×β)) l=l
 |[]=>rfl
 |(k,x)::r=>by simp[cb,look,PY r]
theorem cO.val{P:cJ}{n:Nat}{args:List ak}{st:br}{d:Option Nat}{K:br->Prop}{r:ak}(ae:aN (fun _=>eB) args)(aQ:bQ P n args r)(h:K {st with t:=eY d r st.t}):cO P n args st d K:=by
 refine .inl ⟨⟨[],[]⟩,_,fun k cs ae=>by simp[look]at ae,fun k cs ae=>by simp[look]at ae,vM,ki (fun _ h=>h.elim) _ ae,aQ,?_⟩;rintro eQ ah ⟨rfl,rfl⟩;refine⟨⟨fun m h=>by simp[look]at h,fun m h=>by simp[look]at h⟩,?_⟩;have:after st ⟨[],[]⟩ ⟨[],[]⟩ d eQ={st with t:=eY d eQ st.t}:=by simp[after,PY,c3]
 rw[this];exact h
@[reducible,simp] def dS(n:Int):dw:= .c (.int .i64 n)
@[reducible,simp] def I(a b:Nat):dc:=⟨none,.s (.v a (.mov (.t b)))⟩
@[reducible,simp] def b2(a:Nat)(i:gg):dc:=⟨none,.s (.v a i)⟩
@[reducible,simp] def cX(i:ev):dc:=⟨none,.s i⟩
@[reducible,simp] def c2(a f:Nat)(l:List dw):dc:=⟨none,.call (some a) (.c (.func f [])) l⟩
@[reducible,simp] def bO(j:Nat)(w:Bool)(a b:Nat):dc:=⟨some (j,w),.s (.v a (.mov (.t b)))⟩
@[reducible,simp] def xS(j:Nat)(w:Bool)(a:Nat)(i:gg):dc:=⟨some (j,w),.s (.v a i)⟩
@[reducible,simp] def ys(j:Nat)(w:Bool)(i:ev):dc:=⟨some (j,w),.s i⟩
@[reducible,simp] def cw(d s a b:Nat):dc:=b2 d (.iaddr s (.t a) (.t b))
@[reducible,simp] def az(d s a:Nat):dc:=b2 d (.load false s (.t a))
@[reducible,simp] def aV(d s a:Nat):dc:=b2 d (.load true s (.t a))
@[reducible,simp] def aI(d o s a:Nat):dc:=b2 d (.faddr o false s (.t a))
@[reducible,simp] def hp(d o s a:Nat):dc:=b2 d (.faddr o true s (.t a))
@[reducible,simp] def bq(d:Nat)(o:BinOp)(a b:Nat):dc:=b2 d (.bin o false (.t a) (.t b))
@[reducible,simp] def aS(d:Nat)(o:BinOp)(a:Nat)(n:Int):dc:=b2 d (.bin o false (.t a) (dS n))
@[reducible,simp] def ct(d a:Nat):dc:=b2 d (.len (.t a))
@[reducible,simp] def cx(d a:Nat):dc:=b2 d (.notB (.t a))
@[reducible,simp] def cj(d i a:Nat):dc:=b2 d (.ext i (.t a))
@[reducible,simp] def cV(d a b:Nat):dc:=b2 d (.pick (.t a) (.c (.bool true)) (.t b))
@[reducible,simp] def de(d a b:Nat):dc:=b2 d (.pick (.t a) (.t b) (.c (.bool false)))
@[reducible,simp] def bh(d:Nat)(b:Bool):dc:=b2 d (.mov (.c (.bool b)))
@[reducible,simp] def b6(d:Nat)(n:Int):dc:=b2 d (.mov (dS n))
@[reducible,simp] def bu(s a b:Nat):dc:=cX (.store s (.t a) (.t b))
@[reducible,simp] def al(j:Nat)(w:Bool)(x:dc):dc:=⟨some (j,w),x.i⟩
@[reducible,simp] def aa(l:List dc)(c:C):C:= .seq (.region l) c
@[reducible,simp] def aZ(n:Nat)(a b:C):C:= .cond (.t n) a b
@[reducible,simp] def gY(d a:Nat)(l:List dw):dc:=⟨none,.call (some d) (.t a) l⟩
@[reducible,simp] def cG(d f a:Nat):dc:=c2 d f [.t a]
@[reducible,simp] def b5(d f a b:Nat):dc:=c2 d f [.t a,.t b]
@[reducible,simp] def da:List ak:=[.int .i64 0,.int .i64 0,.str [],.slice 4 .nil []]
@[reducible,simp] def ib:List ak:=[.int .i64 0,.int .i64 0,.int .i64 0,.str [],.slice 4 .nil []]
@[reducible,simp] def fW:List ak:=[.int .i64 0,.slice 5 .nil [],.slice 1 .nil [],.slice 2 .nil [],.slice 2 .nil []]
@[reducible,simp] def cU(a b:Nat):dc:=cX (.box a none (.t b))
@[reducible,simp] def cL(a:Nat)(l:List ak):dc:=cX (.alloc a none (.agg l))
@[reducible,simp] def eA(a n:Nat):dc:=b2 a (.mov (.c (.slice n .nil [])))
@[reducible,simp] def gf(a b c d e:Nat):dc:=cX (.app a b c (.t d) (.t e))
@[reducible,simp] def dI(a b c:Nat)(l:List dw):dc:=cX (.bsl a b c l)
@[reducible,simp] def eO(a b:Nat):dc:=b2 a (.nck (.t b))
@[reducible,simp] def j9(d s a:Nat)(n:Int):dc:=b2 d (.iaddr s (.t a) (dS n))
@[reducible,simp] def gv(d:Nat)(l:List ak)(m:List (Nat×Nat×dw)):dc:=b2 d (.build l m)
@[reducible,simp] def eZ(a b c:Nat)(x:C):C:= .block 0 (.loop (aa [bq a .lss b c] (.seq (aZ a .skip (.exit 0)) x)))
end
end Go.Pv
namespace Go.Proofs.YtohaalphocaebaaGreat
section
open Go Go.Pv
def Kl:C:=(aa [bh 2 false] (.seq (aa [I 5 0,ct 6 5,b6 7 0] (eZ 8 7 6 (.seq (.block 1 (aa [cw 9 4 5 7,aV 10 4 9,cL 4 da,bu 4 4 10] (aa [aV 11 4 4,cG 12 117 11,cx 13 12] (aZ 13 (aa [bh 2 false] .ret) .skip)))) (.region [aS 14 .add 7 1,I 7 14])))) (aa [bh 2 true] .ret)))
@[simp] def anW:List bW:=[.tmp 2]
def z1:C:=(aa [cU 1 0,cL 2 da] (aa [aI 6 0 1 1,az 7 1 6,aI 8 1 1 1,az 9 1 8,aI 10 2 1 1,az 11 1 10,gv 12 da [(0,1,(.t 7)),(1,1,(.t 9)),(2,1,(.t 11))],cL 3 da,bu 4 3 12] (.seq (aa [aI 13 3 1 1,az 14 1 13,ct 15 14,b6 16 0] (eZ 17 16 15 (.seq (.block 1 (aa [cw 18 4 14 16,aV 19 4 18,cL 5 da,bu 4 5 19] (.drawn true 29 [aI 20 3 1 3,az 21 1 20,aV 22 4 5,cG 23 74 22,dI 24 4 32 [.t 23],gf 25 4 32 21 24,aI 26 3 1 3,bu 1 26 25]))) (.region [aS 27 .add 16 1,I 16 27])))) (aa [aV 28 4 3,bu 4 2 28] .ret))))
@[simp] def aof:List bW:=[.cell 2 true 4]
def Kx:C:=(aa [cL 2 da] (aa [I 3 0,gv 4 da [(0,1,(dS 1)),(1,1,(.t 3))],bu 4 2 4] .ret))
@[simp] def Y4:List bW:=[.cell 2 true 4]
def RA:C:=(aa [cX (.box 2 (some 201) (.t 0)),cU 3 1,cL 4 da,bh 5 false] (aa [aV 6 4 3,b2 7 (.mkf 182 [.t 2]),b5 8 181 6 7,cj 9 0 8,cj 10 1 8,bu 4 4 9,I 5 10] .ret))
@[simp] def YF:List bW:=[.cell 4 true 4,.tmp 5]
def Q8:C:=(aa [bh 2 false] (.seq (aa [I 5 0,ct 6 5,aS 7 .gtr 6 400] (aZ 7 (aa [bh 2 false] .ret) .skip)) (.seq (aa [I 8 0,ct 9 8,b6 10 0] (eZ 11 10 9 (.seq (.block 1 (aa [I 12 10,cw 13 5 8 10,aV 14 5 13,cL 4 ib,I 3 12,bu 5 4 14] (.seq (.drawn true 45 [aI 15 0 1 4,az 16 1 15,aS 17 .lss 16 0,I 18 17,al 18 false (aI 19 0 1 4),al 18 false (az 20 1 19),al 18 false (aS 21 .gtr 20 100000),cV 22 18 21,I 23 22,bO 23 false 24 3,al 23 false (aS 25 .gtr 24 0),bO 23 false 26 25,bO 26 true 27 0,bO 26 true 28 3,al 26 true (aS 29 .sub 28 1),al 26 true (cw 30 5 27 29),al 26 true (aI 31 0 1 30),al 26 true (az 32 1 31),al 26 true (aI 33 0 1 4),al 26 true (az 34 1 33),al 26 true (bq 35 .geq 32 34),al 23 false (de 36 26 35),cV 37 23 36,I 38 37,al 38 false (hp 39 1 4 4),al 38 false (aV 40 4 39),al 38 false (cG 41 117 40),al 38 false (cx 42 41),cV 43 38 42]) (aZ 43 (aa [bh 2 false] .ret) .skip)))) (.region [aS 44 .add 10 1,I 10 44])))) (aa [bh 2 true] .ret))))
@[simp] def Iu:List bW:=[.tmp 2]
def Rn:C:=(aa [cU 2 0,cU 3 1,bh 4 false] (aa [aV 5 4 2,aV 6 4 3,b5 7 170 5 6,aS 8 .eql 7 0,I 4 8] .ret))
@[simp] def Yw:List bW:=[.tmp 4]
def Su:C:=(aa [cU 2 0,cU 3 1,cL 4 da] (aa [aV 5 4 2,aV 6 4 3,dI 7 4 32 [.t 5,.t 6],gv 8 da [(0,1,(dS 4)),(3,1,(.t 7))],bu 4 4 8] .ret))
@[simp] def Y0:List bW:=[.cell 4 true 4]
def Q6:C:=(aa [cU 1 0,bh 2 false] (aa [aV 3 4 1,c2 4 194 [.t 3,(dS 5000)],aS 5 .gtr 4 0,I 2 5] .ret))
@[simp] def Yl:List bW:=[.tmp 2]
def QX:C:=(aa [bh 2 false] (.seq (aa [I 4 0,b2 5 (.slen (.t 4)),aS 6 .lss 5 1,I 7 6,bO 7 false 8 0,al 7 false (b2 9 (.slen (.t 8))),al 7 false (aS 10 .gtr 9 12),cV 11 7 10,I 12 11,bO 12 false 13 0,al 12 false (b2 14 (.sidx (.t 13) (dS 0))),al 12 false (b2 15 (.bin .lss false (.t 14) (.c (.int .u8 97)))),cV 16 12 15,I 17 16,bO 17 false 18 0,al 17 false (b2 19 (.sidx (.t 18) (dS 0))),al 17 false (b2 20 (.bin .gtr false (.t 19) (.c (.int .u8 122)))),cV 21 17 20] (aZ 21 (aa [bh 2 false] .ret) .skip)) (.seq (aa [b6 3 1] (.block 0 (.loop (.seq (aa [I 22 3,I 23 0,b2 24 (.slen (.t 23)),bq 25 .lss 22 24] (aZ 25 .skip (.exit 0))) (.seq (.block 1 (aa [I 28 0,I 29 3,b2 30 (.sidx (.t 28) (.t 29)),b2 31 (.bin .geq false (.t 30) (.c (.int .u8 97))),I 32 31,bO 32 true 33 0,bO 32 true 34 3,al 32 true (b2 35 (.sidx (.t 33) (.t 34))),al 32 true (b2 36 (.bin .leq false (.t 35) (.c (.int .u8 122)))),de 37 32 36,I 38 37,bO 38 false 39 0,bO 38 false 40 3,al 38 false (b2 41 (.sidx (.t 39) (.t 40))),al 38 false (b2 42 (.bin .geq false (.t 41) (.c (.int .u8 48)))),bO 38 false 43 42,bO 43 true 44 0,bO 43 true 45 3,al 43 true (b2 46 (.sidx (.t 44) (.t 45))),al 43 true (b2 47 (.bin .leq false (.t 46) (.c (.int .u8 57)))),al 38 false (de 48 43 47),cV 49 38 48,I 50 49,bO 50 false 51 0,bO 50 false 52 3,al 50 false (b2 53 (.sidx (.t 51) (.t 52))),al 50 false (b2 54 (.bin .eql false (.t 53) (.c (.int .u8 45)))),cV 55 50 54,cx 56 55] (aZ 56 (aa [bh 2 false] .ret) .skip))) (.region [I 26 3,aS 27 .add 26 1,I 3 27])))))) (aa [bh 2 true] .ret))))
@[simp] def It:List bW:=[.tmp 2]
def x5:C:=(aa [cU 2 0] (.seq (aa [aI 4 0 1 2,az 5 1 4,aS 6 .eql 5 1] (aZ 6 (.region [I 7 1,aI 8 1 1 2,az 9 1 8,gY 10 7 [.t 9]]) .skip)) (aa [aI 11 0 1 2,az 12 1 11,aS 13 .eql 12 4] (aZ 13 (aa [aI 14 3 1 2,az 15 1 14,j9 16 4 15 0,aV 17 4 16,I 18 1,b5 19 129 17 18] (.region [aI 20 3 1 2,az 21 1 20,j9 22 4 21 1,aV 23 4 22,I 24 1,b5 25 129 23 24])) .skip))))
@[simp] def zd:List bW:=[]
def Rp:C:=(aa [cX (.box 2 (some 101) (.t 0)),cX (.box 3 (some 102) (.t 1)),b6 4 0] (aa [az 6 1 2,ct 7 6,b2 8 (.mkf 212 [.t 2,.t 3]),b5 9 211 7 8,I 5 9] (.seq (.seq (.drawn true 24 [I 10 5,az 11 1 2,ct 12 11,bq 13 .lss 10 12,I 14 13,al 14 true (az 15 1 2),bO 14 true 16 5,al 14 true (cw 17 5 15 16),al 14 true (aI 18 0 1 17),al 14 true (az 19 1 18),al 14 true (az 20 1 3),al 14 true (bq 21 .eql 19 20),de 22 14 21]) (aZ 22 (aa [I 23 5,I 4 23] .ret) .skip)) (aa [b6 4 (-1)] .ret))))
@[simp] def Yy:List bW:=[.tmp 4]
def x6:C:=(aa [cU 2 0,cL 4 da] (.seq (aa [aI 7 0 1 2,az 8 1 7] (.block 0 (aa [aS 10 .eql 8 1,I 9 10] (aZ 9 (.seq (aa [I 12 1,aI 13 1 1 2,az 14 1 13,gY 15 12 [.t 14],I 11 15,cj 16 0 11,cj 17 1 11,cL 5 da,bu 4 5 16,I 6 17] (aa [I 18 6] (aZ 18 (aa [aV 19 4 5,cG 20 200 19,bu 4 4 20] .ret) .skip))) (aa [aV 21 4 2,bu 4 4 21] .ret)) (aa [aS 23 .eql 8 4,I 22 23] (aZ 22 (.seq (.drawn false 38 [aI 24 3 1 2,az 25 1 24,j9 26 4 25 0,aV 27 4 26,I 28 1,b5 29 153 27 28,aI 30 3 1 2,az 31 1 30,j9 32 4 31 1,aV 33 4 32,I 34 1,b5 35 153 33 34,b5 36 225 29 35,bu 4 4 36]) .ret) .skip)))))) (aa [aV 37 4 2,bu 4 4 37] .ret)))
@[simp] def ze:List bW:=[.cell 4 true 4]
def F9:C:=(aa [cU 2 0,cU 3 1,b6 4 0] (.seq (aa [aI 6 0 1 2,az 7 1 6,aI 8 0 1 3,az 9 1 8,bq 10 .neq 7 9] (aZ 10 (aa [aI 11 0 1 2,az 12 1 11,aI 13 0 1 3,az 14 1 13,b5 15 232 12 14,I 4 15] .ret) .skip)) (.seq (aa [aI 16 1 1 2,az 17 1 16,aI 18 1 1 3,az 19 1 18,bq 20 .neq 17 19] (aZ 20 (aa [aI 21 1 1 2,az 22 1 21,aI 23 1 1 3,az 24 1 23,b5 25 232 22 24,I 4 25] .ret) .skip)) (.seq (aa [aI 26 2 1 2,az 27 1 26,aI 28 2 1 3,az 29 1 28,bq 30 .neq 27 29] (aZ 30 (.seq (aa [aI 31 2 1 2,az 32 1 31,aI 33 2 1 3,az 34 1 33,bq 35 .lss 32 34] (aZ 35 (aa [b6 4 (-1)] .ret) .skip)) (aa [b6 4 1] .ret)) .skip)) (.seq (aa [aI 36 0 1 2,az 37 1 36,aS 38 .neq 37 4] (aZ 38 (aa [b6 4 0] .ret) .skip)) (.seq (.seq (.drawn true 60 [aI 39 3 1 2,az 40 1 39,j9 41 4 40 0,aV 42 4 41,aI 43 3 1 3,az 44 1 43,j9 45 4 44 0,aV 46 4 45,b5 47 170 42 46,I 5 47]) (aa [I 48 5,aS 49 .neq 48 0] (aZ 49 (aa [I 50 5,I 4 50] .ret) .skip))) (.seq (.drawn true 60 [aI 51 3 1 2,az 52 1 51,j9 53 4 52 1,aV 54 4 53,aI 55 3 1 3,az 56 1 55,j9 57 4 56 1,aV 58 4 57,b5 59 170 54 58,I 4 59]) .ret)))))))
@[simp] def IB:List bW:=[.tmp 4]
def RC:C:=(aa [cU 2 0,cX (.box 3 (some 202) (.t 1)),cL 4 da,bh 5 false] (aa [aV 7 4 2,b2 8 (.mkf 240 [.t 3]),b5 9 239 7 8,I 6 9] (.seq (aa [I 10 6,aS 11 .gtr 10 5000] (aZ 11 (aa [gv 12 da [],bu 4 4 12,bh 5 false] .ret) .skip)) (aa [aV 13 4 2,az 14 1 3,b5 15 153 13 14,bu 4 4 15,bh 5 true] .ret))))
@[simp] def Og:List bW:=[.cell 4 true 4,.tmp 5]
def RB:C:=(aa [cL 3 da,bh 4 false] (.seq (aa [az 6 1 1,I 7 0,b5 8 134 6 7,I 5 8] (aa [I 9 5,aS 10 .geq 9 0] (aZ 10 (aa [az 11 1 1,I 12 5,cw 13 5 11 12,hp 14 1 4 13,aV 15 4 14,bu 4 3 15,bh 4 true] .ret) .skip))) (aa [gv 16 da [],bu 4 3 16,bh 4 false] .ret)))
@[simp] def Oe:List bW:=[.cell 3 true 4,.tmp 4]
def RF:C:=(aa [eA 2 1] (aa [cX (.bslm 5 (some 306) 1 3 []),I 3 5] (.seq (aa [I 6 0,cX (.range 7 none (.t 6))] (.block 0 (.loop (aa [⟨none,.next 8 (.t 7)⟩,cj 9 0 8] (.seq (aZ 9 .skip (.exit 0)) (.block 1 (aa [b2 10 (.ment (.t 7)),cj 11 0 10,I 4 11] (.region [I 12 3,I 13 4,dI 14 1 3 [.t 13],cX (.appm 15 none 1 3 (.t 12) (.t 14)),I 3 15])))))))) (aa [I 16 3,cG 17 242 16] (.seq (.pub 3 (.region [I 18 3,I 2 18])) .ret)))))
@[simp] def YH:List bW:=[.tmp 2]
def Rv:C:=(aa [cU 2 0,b6 4 0] (.seq (aa [I 7 1,aS 8 .lss 7 1] (aZ 8 (aa [b6 4 (-1)] .ret) .skip)) (.seq (aa [aI 9 0 1 2,az 10 1 9,aS 11 .neq 10 4] (aZ 11 (.seq (aa [aI 12 3 1 2,az 13 1 12,ct 14 13,aS 15 .neq 14 0] (aZ 15 (aa [b6 4 (-1)] .ret) .skip)) (.seq (aa [aI 16 0 1 2,az 17 1 16] (.block 0 (aa [aS 19 .eql 17 0,I 18 19] (aZ 18 (aa [aI 20 1 1 2,az 21 1 20,aS 22 .neq 21 0,I 23 22,al 23 false (aI 24 2 1 2),al 23 false (az 25 1 24),xS 23 false 26 (.bin .neq false (.t 25) (.c (.str []))),cV 27 23 26] (aZ 27 (aa [b6 4 (-1)] .ret) .skip)) (aa [aS 29 .eql 17 1,I 28 29] (aZ 28 (aa [aI 30 1 1 2,az 31 1 30,aS 32 .lss 31 0,I 33 32,al 33 false (aI 34 1 1 2),al 33 false (az 35 1 34),al 33 false (aS 36 .gtr 35 100000),cV 37 33 36,I 38 37,al 38 false (aI 39 2 1 2),al 38 false (az 40 1 39),xS 38 false 41 (.bin .neq false (.t 40) (.c (.str []))),cV 42 38 41] (aZ 42 (aa [b6 4 (-1)] .ret) .skip)) (aa [aS 44 .eql 17 2,I 43 44] (aZ 43 (aa [aI 45 1 1 2,az 46 1 45,aS 47 .neq 46 0,I 48 47,al 48 false (aI 49 2 1 2),al 48 false (az 50 1 49),al 48 false (cG 51 128 50),al 48 false (cx 52 51),cV 53 48 52] (aZ 53 (aa [b6 4 (-1)] .ret) .skip)) (aa [aS 55 .eql 17 3,I 54 55] (aZ 54 (aa [aI 56 1 1 2,az 57 1 56,aS 58 .lss 57 (-1000000000),I 59 58,al 59 false (aI 60 1 1 2),al 59 false (az 61 1 60),al 59 false (aS 62 .gtr 61 1000000000),cV 63 59 62,I 64 63,al 64 false (aI 65 2 1 2),al 64 false (az 66 1 65),xS 64 false 67 (.bin .neq false (.t 66) (.c (.str []))),cV 68 64 67] (aZ 68 (aa [b6 4 (-1)] .ret) .skip)) (aa [b6 4 (-1)] .ret))))))))))) (aa [b6 4 1] .ret))) .skip)) (.seq (aa [aI 69 1 1 2,az 70 1 69,aS 71 .neq 70 0,I 72 71,al 72 false (aI 73 2 1 2),al 72 false (az 74 1 73),xS 72 false 75 (.bin .neq false (.t 74) (.c (.str []))),cV 76 72 75,I 77 76,al 77 false (aI 78 3 1 2),al 77 false (az 79 1 78),al 77 false (ct 80 79),al 77 false (aS 81 .neq 80 2),cV 82 77 81] (aZ 82 (aa [b6 4 (-1)] .ret) .skip)) (aa [aI 83 3 1 2,az 84 1 83,j9 85 4 84 0,aV 86 4 85,I 87 1,aS 88 .sub 87 1,b5 89 194 86 88,I 5 89] (.seq (aa [I 90 5,aS 91 .lss 90 0] (aZ 91 (aa [b6 4 (-1)] .ret) .skip)) (aa [aI 92 3 1 2,az 93 1 92,j9 94 4 93 1,aV 95 4 94,I 96 1,aS 97 .sub 96 1,I 98 5,bq 99 .sub 97 98,b5 100 194 95 99,I 6 100] (.seq (aa [I 101 6,aS 102 .lss 101 0] (aZ 102 (aa [b6 4 (-1)] .ret) .skip)) (aa [I 103 5,b2 104 (.bin .add false (dS 1) (.t 103)),I 105 6,bq 106 .add 104 105,I 4 106] .ret)))))))))
@[simp] def IA:List bW:=[.tmp 4]
def Kj:C:=(aa [cU 1 0,cL 2 da] (.seq (aa [aI 3 0 1 1,az 4 1 3,aS 5 .neq 4 4] (aZ 5 (aa [aI 6 0 1 1,az 7 1 6,aI 8 1 1 1,az 9 1 8,aI 10 2 1 1,az 11 1 10,gv 12 da [(0,1,(.t 7)),(1,1,(.t 9)),(2,1,(.t 11))],bu 4 2 12] .ret) .skip)) (.seq (.drawn true 25 [aI 13 3 1 1,az 14 1 13,j9 15 4 14 0,aV 16 4 15,cG 17 200 16,aI 18 3 1 1,az 19 1 18,j9 20 4 19 1,aV 21 4 20,cG 22 200 21,dI 23 4 32 [.t 17,.t 22],gv 24 da [(0,1,(dS 4)),(3,1,(.t 23))],bu 4 2 24]) .ret)))
@[simp] def anT:List bW:=[.cell 2 true 4]
def RK:C:=(aa [b6 4 0] (aa [I 8 0,b6 5 0,I 6 8] (.seq (.block 0 (.loop (.seq (aa [I 9 5,I 10 6,bq 11 .lss 9 10] (aZ 11 .skip (.exit 0))) (.block 1 (aa [I 12 5,I 13 6,bq 14 .add 12 13,b2 15 (.conv .u64 (.t 14)),b2 16 (.bin .shr false (.t 15) (.c (.int .u64 1))),b2 17 (.conv .i64 (.t 16)),I 7 17] (aa [I 18 1,I 19 7,gY 20 18 [.t 19],cx 21 20] (aZ 21 (.region [I 22 7,aS 23 .add 22 1,I 5 23]) (.region [I 24 7,I 6 24])))))))) (aa [I 25 5,I 4 25] .ret))))
@[simp] def YI:List bW:=[.tmp 4]
def Rq:C:=(aa [bh 4 false] (.seq (.drawn true 12 [az 5 1 1,I 6 0,cw 7 5 5 6,aI 8 0 1 7,az 9 1 8,az 10 1 2,bq 11 .geq 9 10,I 4 11]) .ret))
@[simp] def Yz:List bW:=[.tmp 4]
def Ry:C:=(aa [cU 2 0,cU 3 1,cL 4 da] (aa [aV 5 4 2,aV 6 4 3,dI 7 4 32 [.t 5,.t 6],gv 8 da [(0,1,(dS 4)),(3,1,(.t 7))],bu 4 4 8] .ret))
@[simp] def YE:List bW:=[.cell 4 true 4]
def Rx:C:=(aa [b6 4 0] (.seq (aa [I 5 0,I 6 1,bq 7 .lss 5 6] (aZ 7 (aa [b6 4 (-1)] .ret) .skip)) (.seq (aa [I 8 0,I 9 1,bq 10 .gtr 8 9] (aZ 10 (aa [b6 4 1] .ret) .skip)) (aa [b6 4 0] .ret))))
@[simp] def YD:List bW:=[.tmp 4]
def wu:C:=(aa [cU 2 0,b6 4 0] (.seq (aa [aI 6 0 1 2,az 7 1 6] (.block 0 (aa [aS 9 .eql 7 1,I 8 9] (aZ 8 (aa [I 10 1,aI 11 1 1 2,az 12 1 11,gY 13 10 [.t 12],b2 14 (.min2 (.t 13) (dS 5001)),I 4 14] .ret) (aa [aS 16 .eql 7 4,I 15 16] (aZ 15 (aa [aI 17 3 1 2,az 18 1 17,j9 19 4 18 0,aV 20 4 19,I 21 1,b5 22 239 20 21,I 5 22] (.seq (aa [I 23 5,aS 24 .gtr 23 5000] (aZ 24 (aa [I 25 5,I 4 25] .ret) .skip)) (aa [I 26 5,b2 27 (.bin .add false (dS 1) (.t 26)),aI 28 3 1 2,az 29 1 28,j9 30 4 29 1,aV 31 4 30,I 32 1,b5 33 239 31 32,bq 34 .add 27 33,b2 35 (.min2 (.t 34) (dS 5001)),I 4 35] .ret))) .skip)))))) (aa [b6 4 1] .ret)))
@[simp] def vT:List bW:=[.tmp 4]
def RD:C:=(aa [b6 3 0] (.seq (aa [az 7 1 1,I 8 0,gY 9 7 [.t 8],I 6 9,cj 10 0 6,cj 11 1 6,cL 4 da,bu 4 4 10,I 5 11] (aa [I 12 5] (aZ 12 (aa [aV 13 4 4,c2 14 194 [.t 13,(dS 5000)],I 3 14] .ret) .skip))) (aa [b6 3 1] .ret)))
@[simp] def YG:List bW:=[.tmp 3]
def bF:List (Nat×dB):=[
 (3,⟨1,8,.int .i64,.int .i64 0⟩),
 (9,⟨1,16,.str,.str []⟩),
 (23,⟨1,24,.slice 61,.slice 5 .nil []⟩),
 (30,⟨1,24,.slice 32,.slice 4 .nil []⟩),
 (32,⟨4,56,.struct [(0,3),(1,3),(2,9),(3,30)],.agg [.int .i64 0,.int .i64 0,.str [],.slice 4 .nil []]⟩),
 (61,⟨5,64,.struct [(0,3),(1,32)],.agg [.int .i64 0,.int .i64 0,.int .i64 0,.str [],.slice 4 .nil []]⟩),
 (112,⟨1,24,.slice 3,.slice 1 .nil []⟩),
 (154,⟨1,8,.map 3 4,.junk⟩),
 (163,⟨1,8,.int .u64,.int .u64 0⟩),
 (184,⟨1,8,.other,.junk⟩)]
theorem mixed:ax.follows .mixedOrders=true:=by kernel_rfl
theorem bj{bF:List (Nat×dB)}(aH:fM ax bF=true){f:FuncId}{fn:Func}(aQ:ax.funcs[f]? =some fn){c:C}{eM:List bW}{n:Nat}(eh:b3 bF c eM n fn=true){args:List ak}{r:ak}(he:gI args->c5 ax [] c (bk eM r) ⟨j8 0 args,[],[],0,[]⟩)(av:args.length<=n:=by simp)(aK:aJ (fun _=>eB) r:=by simp[aJ]):bQ ax f args r:=bQ.mk mixed aH aQ eh av aK he
theorem fN:fM ax bF=true:=by kernel_rfl
theorem XM:b3 bF Kl anW 1 Tryz.f68=true:=by kernel_rfl
theorem TM:ax.funcs[(68:Nat)]? =some Tryz.f68:=Tryz.func68
theorem Ep:b3 bF z1 aof 1 Tryz.f74=true:=by kernel_rfl
theorem CS:ax.funcs[(74:Nat)]? =some Tryz.f74:=Tryz.func74
theorem XT:b3 bF Kx Y4 1 Tryz.f91=true:=by kernel_rfl
theorem TT:ax.funcs[(91:Nat)]? =some Tryz.f91:=Tryz.func91
theorem alW:b3 bF RA YF 2 Tryz.f95=true:=by kernel_rfl
theorem aeT:ax.funcs[(95:Nat)]? =some Tryz.f95:=Tryz.func95
theorem alv:b3 bF Q8 Iu 1 Tryz.f100=true:=by kernel_rfl
theorem aes:ax.funcs[(100:Nat)]? =some Tryz.f100:=Tryz.func100
theorem alJ:b3 bF Rn Yw 2 Tryz.f108=true:=by kernel_rfl
theorem aeG:ax.funcs[(108:Nat)]? =some Tryz.f108:=Tryz.func108
theorem amO:b3 bF Su Y0 2 Tryz.f114=true:=by kernel_rfl
theorem afK:ax.funcs[(114:Nat)]? =some Tryz.f114:=Tryz.func114
theorem als:b3 bF Q6 Yl 1 Tryz.f117=true:=by kernel_rfl
theorem aeq:ax.funcs[(117:Nat)]? =some Tryz.f117:=Tryz.func117
theorem ali:b3 bF QX It 1 Tryz.f128=true:=by kernel_rfl
theorem aeh:ax.funcs[(128:Nat)]? =some Tryz.f128:=Tryz.func128
theorem Bw:b3 bF x5 zd 2 Tryz.f129=true:=by kernel_rfl
theorem Aj:ax.funcs[(129:Nat)]? =some Tryz.f129:=Tryz.func129
theorem alL:b3 bF Rp Yy 2 Tryz.f134=true:=by kernel_rfl
theorem aeI:ax.funcs[(134:Nat)]? =some Tryz.f134:=Tryz.func134
theorem Bx:b3 bF x6 ze 2 Tryz.f153=true:=by kernel_rfl
theorem Ak:ax.funcs[(153:Nat)]? =some Tryz.f153:=Tryz.func153
theorem NQ:b3 bF F9 IB 2 Tryz.f170=true:=by kernel_rfl
theorem K7:ax.funcs[(170:Nat)]? =some Tryz.f170:=Tryz.func170
theorem alY:b3 bF RC Og 2 Tryz.f181=true:=by kernel_rfl
theorem aeV:ax.funcs[(181:Nat)]? =some Tryz.f181:=Tryz.func181
theorem alX:b3 bF RB Oe 2 Tryz.f182=true:=by kernel_rfl
theorem aeU:ax.funcs[(182:Nat)]? =some Tryz.f182:=Tryz.func182
theorem al1:b3 bF RF YH 1 Tryz.f189=true:=by kernel_rfl
theorem aeY:ax.funcs[(189:Nat)]? =some Tryz.f189:=Tryz.func189
theorem alR:b3 bF Rv IA 2 Tryz.f194=true:=by kernel_rfl
theorem aeO:ax.funcs[(194:Nat)]? =some Tryz.f194:=Tryz.func194
theorem XK:b3 bF Kj anT 1 Tryz.f200=true:=by kernel_rfl
theorem TK:ax.funcs[(200:Nat)]? =some Tryz.f200:=Tryz.func200
theorem al7:b3 bF RK YI 2 Tryz.f211=true:=by kernel_rfl
theorem ae3:ax.funcs[(211:Nat)]? =some Tryz.f211:=Tryz.func211
theorem alM:b3 bF Rq Yz 3 Tryz.f212=true:=by kernel_rfl
theorem aeJ:ax.funcs[(212:Nat)]? =some Tryz.f212:=Tryz.func212
theorem alU:b3 bF Ry YE 2 Tryz.f225=true:=by kernel_rfl
theorem aeR:ax.funcs[(225:Nat)]? =some Tryz.f225:=Tryz.func225
theorem alT:b3 bF Rx YD 2 Tryz.f232=true:=by kernel_rfl
theorem aeQ:ax.funcs[(232:Nat)]? =some Tryz.f232:=Tryz.func232
theorem y7:b3 bF wu vT 2 Tryz.f239=true:=by kernel_rfl
theorem yb:ax.funcs[(239:Nat)]? =some Tryz.f239:=Tryz.func239
theorem alZ:b3 bF RD YG 2 Tryz.f240=true:=by kernel_rfl
theorem aeW:ax.funcs[(240:Nat)]? =some Tryz.f240:=Tryz.func240
end
end Go.Proofs.YtohaalphocaebaaGreat
namespace Go.Pv
section
open Go Go.RowKit
theorem ej{α:Type}{l:List α}{i:Nat}(h:i<l.length):∃b,l[i]? =some b/\∀h,(l[i]'h)=b:=⟨l[i],bY h,fun _=>rfl⟩
def OV(st:br)(i:ev):Prop:=match mL st i with|some (c,_)=>c|none=>eB
def OW(st:br)(i:ev):br:=match mL st i with|some (_,s)=>s|none=>st
def FC(P:cJ)(r:List dc)(K:br->Prop)(st:br):Prop:=iq P r st K
def zP(P:cJ)(ob:List aM)(c:C)(Q:Exit->br->Prop)(st:br):Prop:=c5 P ob c Q st
def qF(P:cJ)(v:ak)(s:Nat)(w:Bool)(i:eo)(r:List dc)(st:br)(K:br->Prop):Prop:=
 match v with
 | .bool b=>(b=w->iq P (⟨none,i⟩::r) {st with t:=put s (.bool w) st.t} K)/\(b= !w->iq P r {st with t:=eY i.dst (.tuple []) (put s (.bool !w) st.t)} K)
 | .tuple []=>iq P r {st with t:=eY i.dst (.tuple []) st.t} K
 |_=>eB
def va(P:cJ)(ob:List aM)(v:ak)(x:dw)(t e:C)(Q:Exit->br->Prop)(st:br):Prop:=
 match v with
 | .bool b=>(b=true->c5 P ob t Q (td st x true))/\(b=false->c5 P ob e Q (td st x false))
 |_=>eB
def KU(P:cJ)(v:ak)(d:Option Nat)(xs:List ak)(r:List dc)(st:br)(K:br->Prop):Prop:=
 match v with
 | .func n dt=>cO P n (c7 (xs++dt)) st d (FC P r K)
 |_=>eB
section
variable {P:cJ} {ob:List aM} {st:br} {K:br->Prop} {r:List dc} {Q:Exit->br->Prop} {a b c t e:C}
theorem ad1:iq P [] st K=K st:=rfl
theorem ad2{i:ev}:iq P (⟨none,.s i⟩::r) st K=(OV st i/\iq P r (OW st i) K):=by
 simp only[iq,u7,OV,OW];cases mL st i with
 |none=>simp
 |some x=>rfl
theorem adY{d:Option Nat}{f:dw}{xs:List dw}:iq P (⟨none,.call d f xs⟩::r) st K=KU P (cy st.t f) d (xs.map (cy st.t)) r st K:=by simp only[iq,u7,KU];rfl
theorem ad0{d:Nat}{x:dw}:iq P (⟨none,.next d x⟩::r) st K=tP st d (cy st.t x) (FC P r K):=by simp only[iq,u7];rfl
def xW(P:cJ)(ob:List aM)(c:C)(Q:Exit->br->Prop):Option br->Prop
 |some st=>c5 P ob c Q st
 |none=>eB
theorem abo:xW P ob c Q (some st)=c5 P ob c Q st:=rfl
theorem adD{s:Nat}:c5 P ob (.pub s c) Q st=xW P ob c Q (xt st s):=by simp only[c5];cases xt st s<;>rfl
theorem adz{ql:Bool}{s:Nat}:c5 P ob (.fg ql s c) Q st=c5 P ob c Q {st with t:=put s (Ao ql (get s st.t)) st.t}:=rfl
theorem adA{ql:Bool}{s:Nat}{d:C}:c5 P ob (.seq (.fg ql s c) d) Q st=c5 P ob (.seq c d) Q {st with t:=put s (Ao ql (get s st.t)) st.t}:=rfl
theorem adB{gh:Bool}{s:Nat}:c5 P ob (.fz gh s c) Q st=xW P ob c Q (wB st gh s):=by simp only[c5];cases wB st gh s<;>rfl
theorem adC{gh:Bool}{s:Nat}{d:C}:c5 P ob (.seq (.fz gh s c) d) Q st=xW P ob (.seq c d) Q (wB st gh s):=by simp only[c5];cases wB st gh s<;>rfl
theorem adE{s:Nat}:c5 P ob (.pubB s c) Q st=xW P ob c Q (xr st s):=by simp only[c5];cases xr st s<;>rfl
theorem adX{n:Nat}{dt:List ak}{d:Option Nat}{xs:List ak}:KU P (.func n dt) d xs r st K=cO P n (c7 (xs++dt)) st d (FC P r K):=rfl
theorem adZ{s:Nat}{w:Bool}{i:eo}:iq P (⟨some (s,w),i⟩::r) st K=qF P (get s st.t) s w i r st K:=by simp only[iq,qF];try rfl
theorem ad7{s:Nat}{i:eo}:qF P (.bool true) s true i r st K=iq P (⟨none,i⟩::r) {st with t:=put s (.bool true) st.t} K:=by simp[qF]
theorem ad3{s:Nat}{i:eo}:qF P (.bool false) s false i r st K=iq P (⟨none,i⟩::r) {st with t:=put s (.bool false) st.t} K:=by simp[qF]
theorem ad6{s:Nat}{i:eo}:qF P (.bool true) s false i r st K=iq P r {st with t:=eY i.dst (.tuple []) (put s (.bool true) st.t)} K:=by simp[qF]
theorem ad4{s:Nat}{i:eo}:qF P (.bool false) s true i r st K=iq P r {st with t:=eY i.dst (.tuple []) (put s (.bool false) st.t)} K:=by simp[qF]
theorem ad5{s:Nat}{w:Bool}{i:eo}:qF P (.tuple []) s w i r st K=iq P r {st with t:=eY i.dst (.tuple []) st.t} K:=by simp[qF]
theorem bN{x:Bool}{s:Nat}{w:Bool}{i:eo}(J:x=w->iq P (⟨none,i⟩::r) {st with t:=put s (.bool w) st.t} K)(U:x= !w->iq P r {st with t:=eY i.dst (.tuple []) (put s (.bool !w) st.t)} K):qF P (.bool x) s w i r st K:=⟨J,U⟩
theorem ado:c5 P ob (.seq (.seq a b) c) Q st=c5 P ob (.seq a (.seq b c)) Q st:=by simp only[c5];congr 1;funext e st';cases e<;>rfl
theorem adJ:c5 P ob (.seq .skip c) Q st=c5 P ob c Q st:=rfl
theorem adH:c5 P ob (.seq .ret c) Q st=Q .ret st:=rfl
theorem adx{n:Nat}:c5 P ob (.seq (.exit n) c) Q st=Q (.exit n) st:=rfl
theorem adK:c5 P ob .skip Q st=Q .normal st:=rfl
theorem adI:c5 P ob .ret Q st=Q .ret st:=rfl
theorem ady{n:Nat}:c5 P ob (.exit n) Q st=Q (.exit n) st:=rfl
theorem adF{gs:List dc}:c5 P ob (.seq (.region gs) c) Q st=iq P gs st (zP P ob c Q):=rfl
theorem adG{gs:List dc}:c5 P ob (.region gs) Q st=iq P gs st (Q .normal):=rfl
theorem adr{x:dw}:c5 P ob (.seq (.cond x t e) c) Q st=va P ob (cy st.t x) x (.seq t c) (.seq e c) Q st:=by simp only[c5,va];try rfl
theorem ads{x:dw}:c5 P ob (.cond x t e) Q st=va P ob (cy st.t x) x t e Q st:=by simp only[c5,va];try rfl
theorem adM{x:dw}:va P ob (.bool true) x t e Q st=c5 P ob t Q (td st x true):=by simp[va]
theorem adL{x:dw}:va P ob (.bool false) x t e Q st=c5 P ob e Q (td st x false):=by simp[va]
theorem bL{v:Bool}{x:dw}(J:v=true->c5 P ob t Q (td st x true))(U:v=false->c5 P ob e Q (td st x false)):va P ob (.bool v) x t e Q st:=⟨J,U⟩
def zL(P:cJ)(ob:List aM)(id:Nat)(c:C)(Q:Exit->br->Prop)(e:Exit)(st:br):Prop:=
 match e with
 | .normal=>c5 P ob c Q st
 | .exit j=>if j=id then c5 P ob c Q st else Q (.exit j) st
 |e=>Q e st
theorem adp{id:Nat}:c5 P ob (.seq (.block id a) c) Q st=c5 P ob a (zL P ob id c Q) st:=by
 simp only[c5];congr 1;funext e st';cases e with
 |exit j=>rfl
 |_=>rfl
theorem adq{id:Nat}:c5 P ob (.block id a) Q st=c5 P ob a (zL P ob id .skip Q) st:=by
 simp only[c5];congr 1;funext e st';cases e with
 |exit j=>simp only[zL];by_cases af:j=id<;>simp[af,c5]
 |_=>rfl
theorem abc{id:Nat}:zL P ob id c Q .normal st=zP P ob c Q st:=rfl
theorem abb{id j:Nat}:zL P ob id c Q (.exit j) st=if j=id then zP P ob c Q st else Q (.exit j) st:=rfl
theorem abd{id:Nat}:zL P ob id c Q .ret st=Q .ret st:=rfl
def bP(ob:List aM)(hv:Nat->br->Prop)(k:Nat)(Q:Exit->br->Prop)(e:Exit)(st:br):Prop:=
 match e with
 | .normal=> ∃bH pK,bH<k/\jc ob st pK/\hv bH pK
 |e=>Q e st
theorem Fz{hv:Nat->br->Prop}{k:Nat}:bP ob hv k Q .normal st= ∃bH pK,bH<k/\jc ob st pK/\hv bH pK:=rfl
theorem abj{hv:Nat->br->Prop}{k n:Nat}:bP ob hv k Q (.exit n) st=Q (.exit n) st:=rfl
theorem abk{hv:Nat->br->Prop}{k:Nat}:bP ob hv k Q .ret st=Q .ret st:=rfl
theorem nJ(hv:Nat->br->Prop)(m:Nat)(xB:br)(hw:jc ob st xB)(bE:hv m xB)(h:∀k s,hv k s->(∀i,fZ (get i s.t))->(∀j cs,look j s.b=some cs->ie cs=true->gz cs)->c5 P ob a (bP ob hv k Q) s):c5 P ob (.loop a) Q st:=by
 simp only[c5];refine⟨hv,m,xB,hw,bE,fun k s J U ao=>?_⟩;have:=h k s J U ao;have bt:(bP ob hv k Q)=(fun e ah=>match e with| .normal=> ∃bH pK,bH<k/\jc ob ah pK/\hv bH pK|e=>Q e ah):=by funext e ah;cases e<;>rfl
 rw[bt]at this;exact this
end
/-Regions cM draw lB order. -/
def OT(n0:Nat)(st:br)(i:ev):Prop:=match eJ (p7 n0 i) st.n (p7 n0 i::st.o) st i with|some (c,_)=>c|none=>eB
def OU(n0:Nat)(st:br)(i:ev):br:=match eJ (p7 n0 i) st.n (p7 n0 i::st.o) st i with|some (_,s)=>s|none=>st
def JF(P:cJ)(q:Bool)(nw:List Nat)(n0:Nat)(r:List dc)(K:br->Prop)(st:br):Prop:=h8 P q nw n0 r st K
def qE(P:cJ)(q:Bool)(nw:List Nat)(n0:Nat)(v:ak)(s:Nat)(w:Bool)(i:eo)(r:List dc)(st:br)(K:br->Prop):Prop:=
 match v with
 | .bool b=>(b=w->h8 P q nw n0 (⟨none,i⟩::r) {st with t:=put s (.bool w) st.t} K)/\(b= !w->h8 P q nw n0 r {st with t:=eY i.dst (.tuple []) (put s (.bool !w) st.t)} K)
 | .tuple []=>h8 P q nw n0 r {st with t:=eY i.dst (.tuple []) st.t} K
 |_=>eB
def KT(P:cJ)(q:Bool)(nw:List Nat)(n0:Nat)(v:ak)(d:Option Nat)(xs:List ak)(r:List dc)(st:br)(K:br->Prop):Prop:=
 match v with
 | .func n dt=>hH P q nw n (c7 (xs++dt)) st d (JF P q nw n0 r K)
 |_=>eB
section
variable {P:cJ} {ob:List aM} {st:br} {K:br->Prop} {r:List dc} {Q:Exit->br->Prop} {c:C} {q:Bool} {nw:List Nat} {n0 N:Nat}
theorem adQ:h8 P q nw n0 [] st K=K st:=rfl
theorem adR{i:ev}:h8 P q nw n0 (⟨none,.s i⟩::r) st K=(my q nw n0 st i/\OT n0 st i/\h8 P q nw n0 r (OU n0 st i) K):=by
 simp only[h8,kO,OT,OU];cases eJ (p7 n0 i) st.n (p7 n0 i::st.o) st i with
 |none=>simp
 |some x=>rfl
theorem adO{d:Option Nat}{f:dw}{xs:List dw}:h8 P q nw n0 (⟨none,.call d f xs⟩::r) st K=KT P q nw n0 (cy st.t f) d (xs.map (cy st.t)) r st K:=by simp only[h8,kO,KT];rfl
theorem adN{n:Nat}{dt:List ak}{d:Option Nat}{xs:List ak}:KT P q nw n0 (.func n dt) d xs r st K=hH P q nw n (c7 (xs++dt)) st d (JF P q nw n0 r K):=rfl
theorem adP{s:Nat}{w:Bool}{i:eo}:h8 P q nw n0 (⟨some (s,w),i⟩::r) st K=qE P q nw n0 (get s st.t) s w i r st K:=by simp only[h8,qE];try rfl
theorem adW{s:Nat}{i:eo}:qE P q nw n0 (.bool true) s true i r st K=h8 P q nw n0 (⟨none,i⟩::r) {st with t:=put s (.bool true) st.t} K:=by simp[qE]
theorem adS{s:Nat}{i:eo}:qE P q nw n0 (.bool false) s false i r st K=h8 P q nw n0 (⟨none,i⟩::r) {st with t:=put s (.bool false) st.t} K:=by simp[qE]
theorem adV{s:Nat}{i:eo}:qE P q nw n0 (.bool true) s false i r st K=h8 P q nw n0 r {st with t:=eY i.dst (.tuple []) (put s (.bool true) st.t)} K:=by simp[qE]
theorem adT{s:Nat}{i:eo}:qE P q nw n0 (.bool false) s true i r st K=h8 P q nw n0 r {st with t:=eY i.dst (.tuple []) (put s (.bool false) st.t)} K:=by simp[qE]
theorem adU{s:Nat}{w:Bool}{i:eo}:qE P q nw n0 (.tuple []) s w i r st K=h8 P q nw n0 r {st with t:=eY i.dst (.tuple []) st.t} K:=by simp[qE]
theorem bM{x:Bool}{s:Nat}{w:Bool}{i:eo}(J:x=w->h8 P q nw n0 (⟨none,i⟩::r) {st with t:=put s (.bool w) st.t} K)(U:x= !w->h8 P q nw n0 r {st with t:=eY i.dst (.tuple []) (put s (.bool !w) st.t)} K):qE P q nw n0 (.bool x) s w i r st K:=⟨J,U⟩
theorem adt{gs:List dc}:c5 P ob (.seq (.drawn q N gs) c) Q st=h8 P q [] st.n gs st (uQ (st.n+N) st.o (zP P ob c Q)):=rfl
theorem adu{gs:List dc}:c5 P ob (.drawn q N gs) Q st=h8 P q [] st.n gs st (uQ (st.n+N) st.o (Q .normal)):=rfl
theorem adv{gs:List dc}:c5 P ob (.seq (.drawnW nw N gs) c) Q st=((∀j∈nw,.obj j∉st.o)/\h8 P false nw st.n gs st (uQ (st.n+N) (nw.map aM.obj++st.o) (zP P ob c Q))):=rfl
theorem adw{gs:List dc}:c5 P ob (.drawnW nw N gs) Q st=((∀j∈nw,.obj j∉st.o)/\h8 P false nw st.n gs st (uQ (st.n+N) (nw.map aM.obj++st.o) (Q .normal))):=rfl
theorem hH.val{n:Nat}{args:List ak}{d:Option Nat}{r:ak}(ae:aN (fun _=>eB) args)(aQ:bQ P n args r)(h:K {st with t:=eY d r st.t}):hH P q nw n args st d K:=by
 refine .inr ⟨⟨[],[]⟩,⟨[],[]⟩,r,none,fun k cs ae=>by simp[look]at ae,fun k cs ae=>by simp[look]at ae,vM,vM,⟨fun k h=>.inl h,fun k h=>.inl h,fun k h=>h,fun k h=>h,fun k h=>by cases h⟩,ki (fun _ h=>h.elim) _ ae,aQ,fun _=>⟨rfl,rfl⟩,?_⟩;have:({after st ⟨[],[]⟩ ⟨[],[]⟩ d r with o:=st.o}:br)={st with t:=eY d r st.t}:=by simp[after,PY]
 rw[this];exact h
theorem aB{n:Nat}{args:List ak}{d:Option Nat}{r:ak}(aQ:bQ P n args r)(h:K {st with t:=eY d r st.t})(ae:aN (fun _=>eB) args:=by simp):hH P q nw n args st d K:=hH.val ae aQ h
end
section
variable {k:IntKind} {n:Int} {b:Bool} {s:List c0} {sz:Nat} {tag:Ct} {xs:List ak} {key:aM} {off f:Nat} {x:ak}
@[simp]theorem auQ:eR (.int k n)=true:=rfl
@[simp]theorem auE:eR (.bool b)=true:=rfl
@[simp]theorem auX:eR (.str s)=true:=rfl
@[simp]theorem auW:eR (.slice sz tag xs)=true:=rfl
@[simp]theorem auB:eR (.agg xs)=true:=rfl
@[simp]theorem auU:eR (.ptr key off)=true:=rfl
@[simp]theorem auM:eR (.eptr x)=true:=rfl
@[simp]theorem auP{t:Nat}:eR (.iface t x)=true:=rfl
@[simp]theorem arT{t:Nat}:cells (.iface t x)=[.iface t x]:=rfl
@[simp]theorem auG{a:Option Addr}{n c:Nat}:eR (.cst (.slice a n c))=true:=rfl
@[simp]theorem auH{s}:eR (.cst (.string s))=true:=rfl
@[simp]theorem auT:eR .nilp=true:=rfl
@[simp]theorem auN:eR (.func f xs)=true:=rfl
@[simp]theorem auO:eR (.gmap key)=true:=rfl
@[simp]theorem auV{n:Nat}:eR (.row sz key n)=true:=rfl
@[simp]theorem ar0{n:Nat}:cells (.row sz key n)=[.row sz key n]:=rfl
@[simp]theorem arU:cells (.int k n)=[.int k n]:=rfl
@[simp]theorem arK:cells (.bool b)=[.bool b]:=rfl
@[simp]theorem ar2:cells (.str s)=[.str s]:=rfl
@[simp]theorem ar1:cells (.slice sz tag xs)=[.slice sz tag xs]:=rfl
@[simp]theorem arH:cells (.agg xs)=xs:=rfl
@[simp]theorem arZ:cells (.ptr key off)=[.ptr key off]:=rfl
@[simp]theorem arQ:cells (.eptr x)=[.eptr x]:=rfl
@[simp]theorem arY:cells .nilp=[.nilp]:=rfl
@[simp]theorem arR:cells (.func f xs)=[.func f xs]:=rfl
@[simp]theorem arS:cells (.gmap key)=[.gmap key]:=rfl
end
section
variable {b:List (aM×List ak)} {e:List (aM×fQ)} {agg:Bool} {sz off:Nat} {k:aM} {p:ak} {cs xs a7:List ak} {fv:IntKind} {n i:Int} {m j:Nat} {tag:Ct} {s:List c0} {QI:Bool} {lo hi:Option ak}
@[simp]theorem atJ{dH:Nat}{f:Nat}:nx b e agg sz (.rptr dH k m j f)=zn agg sz dH m j f (look k e):=rfl
@[simp]theorem atI:nx b e agg sz (.ptr k off)=(match look k b with
  |some cs=>if agg then some (ie cs=true/\off+sz<=cs.length,.agg ((cs.drop off).take sz))else(cs[off]?).map fun p=>(ie cs=true,p)
  |none=>none):=rfl
@[simp]theorem atH:nx b e agg sz (.eptr p)=if agg then some (isAgg sz p,p)else some (eR p=true/\cells p=[p],p):=rfl
@[simp]theorem ass:C1 agg sz (.eptr p)=if agg then some (isAgg sz p,p)else some (eR p=true/\cells p=[p],p):=rfl
@[simp]theorem asj{o:Nat}:rs off agg sz (.ptr k o)=some (True,.ptr k (o+off)):=rfl
@[simp]theorem asl{dH f:Nat}:rs off agg sz (.rptr dH k m j f)=some (True,.rptr dH k m j (f+off)):=rfl
@[simp]theorem asd:rs off agg sz (.eptr (.agg cs))=if agg then some (off+sz<=cs.length,.eptr (.agg ((cs.drop off).take sz)))else(cs[off]?).map fun p=>(eR p=true/\cells p=[p],.eptr p):=rfl
@[simp]theorem asn:vd off agg sz (.agg cs)=if agg then some (off+sz<=cs.length,.agg ((cs.drop off).take sz))else(cs[off]?).map fun p=>(True,p):=rfl
@[simp]theorem as1{dH:Nat}:A4 sz (.slice dH tag xs) (.int fv i)=if dH=sz then some (0<=i/\i<xs.length,.eptr (xs.getD i.toNat .junk))else none:=rfl
@[simp]theorem as0{dH:Nat}:A4 sz (.row dH k m) (.int fv i)=if dH=sz then some (0<=i/\i<m,.rptr dH k m i.toNat 0)else none:=rfl
@[simp]theorem atG{dH:Nat}:Be (.slice dH tag xs)=some (True,.int .i64 xs.length):=rfl
@[simp]theorem atF{dH:Nat}:Be (.row dH k m)=some (True,.int .i64 m):=rfl
@[simp]theorem atE{a:Option Addr}{n c:Nat}:Be (.cst (.slice a n c))=some (True,.int .i64 n):=rfl
@[simp]theorem auz{s}:E4 (.cst (.string s))=some (True,.int .i64 s.size):=rfl
@[simp]theorem auA:E4 (.str s)=some (True,.int .i64 s.length):=rfl
@[simp]theorem asb:Ai j (.tuple a7)=(a7[j]?).map fun p=>(True,p):=rfl
@[simp]theorem at9:Bq (.ptr k off)=some (True,.ptr k off):=rfl
@[simp]theorem at7:Bq (.eptr p)=some (True,.eptr p):=rfl
@[simp]theorem at8:Bq (.func j cs)=some (True,.func j cs):=rfl
@[simp]theorem aua:Ib (.bool QI)=some (True,.bool (!QI)):=rfl
@[simp]theorem auy:Jg (.str s) (.int fv i)=some (0<=i/\i<s.length,.int .u8 (s.getD i.toNat 0).toNat):=rfl
@[simp]theorem auY:Jl (.str s) lo hi=(match rO 0 lo,rO s.length hi with
  |some l,some h=>some (0<=l/\l<=h/\h<=s.length,.str ((s.take h.toNat).drop l.toNat))
  |_,_=>none):=rfl
@[simp]theorem atK{dH:Nat}:HY sz (.slice dH tag xs) lo hi=(if dH=sz then match rO 0 lo,rO xs.length hi with
  |some l,some h=>some (0<=l/\l<=h/\h<=xs.length,.slice sz .no ((xs.take h.toNat).drop l.toNat))
  |_,_=>none else none):=rfl
theorem Xe{f:aM->Option (List ak)}{ch:jW}{z q:ak}{ok:Bool}:oM f ch z ok (.gmap k) q=(match f k with
  |some (.hdm _ _::kvs)=>if w7 ch q=false then none else match xf ch q kvs with
   |some (some v)=>some (True,if ok then .tuple [v,.bool true]else v)
   |some none=>some (True,if ok then .tuple [z,.bool false]else z)
   |none=>none
  |_=>none):=rfl
theorem Xb{f:aM->Option (List ak)}:qm f (.ptr k 0)=(match f k with
  |some [.hdi _ seen last,.gmap mk]=>match f mk with
   |some (.hdm clock borns::kvs)=>match seen.getLast? with
    |some n=>(ny n borns kvs).map fun p=>(clock=last,p)
    |none=>none
   |_=>none
  |_=>none):=rfl
@[simp]theorem auu{dH f n' el jE:Nat}:zn agg sz dH m j f (some ⟨n',el,jE,some xs⟩)=(if n'=m/\jE=dH then
   (match xs[j]? with
    |some p=>if agg then some (eR p=true/\f+sz<=(cells p).length,.agg (((cells p).drop f).take sz))else((cells p)[f]?).map fun q=>(eR p=true,q)
    |none=>none)else none):=rfl
end
attribute [simp] ado adF adp adr adJ adH adx adK adI ady adG adq ads zP abc abb abd abj abk ad1 ad2 adY adX adZ
 ad7 ad3 ad6 ad4 ad5 adM adL OV OW mL hD j8 cy get put j5 qR n2 n3 cF rO bJ bX Jm oQ u5 Il H8 Gm H7
 look eY ev.dst eo.dst td FC tH c7 eb aJ aN
 adt adu adv adw adQ adR adO adN adP adW adS adV adT adU OT OU eJ p7 my yg gg.loadO uQ JF yM ie tI ad0 adD adE adz adA adB adC wB Ln tM Ao abo xt EE xr rU qw iO H3
theorem aA{P:cJ}{n:Nat}{args:List ak}{st:br}{d:Option Nat}{K:br->Prop}{r:ak}(aQ:bQ P n args r)(h:K {st with t:=eY d r st.t})(ae:aN (fun _=>eB) args:=by simp):cO P n args st d K:=cO.val ae aQ h
theorem aj{a b:Prop}(ab:b)(bm:a:=by first|omega|(unfold pE;omega)|(unfold lim;omega)):a/\b:=⟨bm,ab⟩
theorem cm{p:Prop}(h:eB:=by first|contradiction|omega):p:=h.elim
theorem cp{p:Prop}(h:p:=by(try simp[*]);(repeat' first|with_reducible refine aj ?_|with_reducible refine aA (by assumption) ?_|with_reducible refine aB (by assumption) ?_|simp[*]);(all_goals first|done|(simp[bk,aU,aW,aT, *];done))):p:=h
end
section
open Go Go.RowKit
structure dM (s:cR):Prop where
 obj:iV s
 kb:∀k cs,look k s.b=some cs->aN (inObs s) cs
 ke:∀k o,look k s.e=some o->eg (inObs s) o
structure Same (s ah:cR):Prop where
 b:∀k,(look k s.b).isSome=(look k ah.b).isSome
 e:∀k,(look k s.e).isSome=(look k ah.e).isSome
theorem Same.refl(s:cR):Same s s:=⟨fun _=>rfl,fun _=>rfl⟩
theorem Same.inObs{s ah:cR}(h:Same s ah)(k:aM):inObs s k↔inObs ah k:=by unfold Pv.inObs;rw[h.b,h.e]
theorem vI{α:Type}{k:aM}{x:α}:∀{l:List (aM×α)},(k,x)∈l->(look k l).isSome
 |(i,y)::r,h=>by
  simp only[look];split
  ·rfl
  ·rename_i cK;rcases e7.1 h with h|h
   ·cases h;exact absurd rfl cK
   ·exact vI h
theorem VT{s:cR}{k:aM}(h:k∈c3 s):inObs s k:=by
 unfold c3 at h;rcases iz.1 h with h|h
 ·obtain⟨⟨bH,x⟩,J,rfl⟩:=hG.1 h;exact .inl (vI J)
 ·obtain⟨⟨bH,x⟩,J,rfl⟩:=hG.1 h;exact .inr (vI J)
theorem kl{s:cR}(h:iV s)(m:Nat):aM.loc m∉c3 s:=fun hm=>by
 rcases VT hm with J|J
 ·rw[h.1 m]at J;cases J
 ·rw[h.2 m]at J;cases J
theorem iW{α β:Type}(s:List (aM×β)):∀(a b:List (aM×α)),cb s (a++b)=cb s a++cb s b
 |[],b=>rfl
 |(k,x)::r,b=>by
  simp only[bZ,cb];cases look k s with
  |none=>simp[iW s r b]
  |some _=>exact iW s r b
theorem PZ{α β:Type}(s:List (aM×β)):∀(l:List (aM×α)),(∀k x,(k,x)∈l->(look k s).isSome)->cb s l=[]
 |[],_=>rfl
 |(k,x)::r,h=>by
  have J:=h k x Ψ;simp only[cb];cases av:look k s with
  |none=>rw[av]at J;cases J
  |some _=>exact PZ s r fun k x ad=>h k x (by simp[ad])
theorem hr{α:Type}(s:List (aM×α)):cb s s=[]:=PZ s s fun k x h=>vI h
theorem kr{α:Type}{k:aM}{x:α}:∀{l:List (aM×α)},look k l=none->cF k x l=l++[(k,x)]
 |[],_=>rfl
 |(i,y)::r,h=>by
  simp only[look]at h;split at h
  ·cases h
  ·rename_i cK;simp[cF,cK,kr h]
theorem cS{α:Type}(k:aM):∀(a b:List (aM×α)),look k (a++b)=match look k a with|some x=>some x|none=>look k b
 |[],b=>rfl
 |(i,y)::r,b=>by
  simp only[bZ,look];split
  ·rfl
  ·exact cS k r b
theorem cO.ob{P:cJ}{n:Nat}{args:List ak}{st:br}{d:Option Nat}{K:br->Prop}{s:cR}{Q:ak->cR->Prop}(aQ:bI P n args s Q)(ag:dM s)(ab:∀k cs,look k s.b=some cs->look k st.b=some cs)(he:∀k o,look k s.e=some o->look k st.e=some o)
  (ae:aN (inObs s) args) (h:∀r ah,Q r ah->Same s ah/\K ⟨eY d r st.t,cb s.b st.b++ah.b,cb s.e st.e++ah.e,st.n,st.o++c3 ah⟩):cO P n args st d K:=by
 refine .inl ⟨s,Q,fun k cs ar=>⟨ab k cs ar,.inl (by simp[ar]),ag.kb k cs ar⟩,fun k o aw=>⟨he k o aw,.inr (by simp[aw]),ag.ke k o aw⟩,ag.obj,ae,aQ,fun r ah bt=>?_⟩;obtain⟨J,U⟩:=h r ah bt;exact⟨⟨fun m hm=>.inl (by rw[J.b];exact hm),fun m hm=>.inl (by rw[J.e];exact hm)⟩,U⟩
theorem cP.ob{eM:List bW}{s ah:cR}{Q:ak->cR->Prop}{e:Exit}{st:br}{c:Prop}{cE:List ak}(sD:e= .ret\/e= .normal)(sJ:aU st eM=some (c,cE))(ar:c)(ag:dM ah)(fo:Same s ah)(ab:∀k cs,look k ah.b=some cs->look k st.b=some cs)(c8:∀k o,look k ah.e=some o->look k st.e=some o)
  (ae:aJ (inObs ah) (eb (aT cE))) (bt:Q (eb (aT cE)) ah):cP eM s Q e st:=by
 refine⟨sD,?_⟩;rw[sJ];have U7:∀{α:Type} (l:List (aM×α)),(∀k x,(k,x)∈l->inObs ah k)->kh ah l:=by
  intro α l;induction l with
  |nil=>intro _;trivial
  |cons x r bR=>obtain⟨k,x⟩:=x;intro h;exact⟨h k x Ψ,bR fun k x ad=>h k x (by simp[ad])⟩
 exact⟨ar,ah,U7 _ fun k x ad=>.inl (by rw[<-fo.b];exact vI ad),U7 _ fun k x ad=>.inr (by rw[<-fo.e];exact vI ad),fun k cs dn=>⟨ab k cs dn,.inl (by simp[dn]),ag.kb k cs dn⟩,fun k o aw=>⟨c8 k o aw,.inr (by simp[aw]),ag.ke k o aw⟩,ag.obj,ae,bt⟩
theorem bI.mono{P:cJ}{f:FuncId}{args:List ak}{s:cR}{Q q9:ak->cR->Prop}(h:bI P f args s Q)(bt:∀r ah,Q r ah->q9 r ah):bI P f args s q9:=by
 intro w ν a7 J U ao;have hm:∀(e:Ending) (w':World),(∃v r ah bo,e= .returned v/\Q r ah/\bc w' bo r v/\Good (fun bl=>fq ν s bl\/w.heap.size<=bl) w' bo ah.b ah.e/\pe bo ah/\iV ah/\qB ⟨w,ν,fq ν s,0,c3 s⟩ w' bo)->(∃v r ah bo,e= .returned v/\q9 r ah/\bc w' bo r v/\Good (fun bl=>fq ν s bl\/w.heap.size<=bl) w' bo ah.b ah.e/\pe bo ah/\iV ah/\qB ⟨w,ν,fq ν s,0,c3 s⟩ w' bo):=by rintro e w' ⟨v,r,ah,bo,bC,a2,a3⟩;exact⟨v,r,ah,bo,bC,bt _ _ a2,a3⟩
 rcases h w ν a7 J U ao with⟨rB,ar⟩|⟨v,w',ar,aK⟩
 ·exact .inl ⟨rB,ar.mono hm⟩
 ·exact .inr ⟨v,w',ar,hm _ _ aK⟩
theorem Em{s:cR}{k:aM}(h:inObs s k):¬fresh 0 (c3 s) k:=fun aQ=>aQ.2 (uz h)
theorem jc.ob{s:cR}(ag:dM s){st:br}{dO:List (Nat×ak)}(aH:∀x∈dO,get x.1 st.t=x.2/\aJ (inObs s) x.2)(ab:∀k cs,look k s.b=some cs->look k st.b=some cs)(he:∀k o,look k s.e=some o->look k st.e=some o):
  jc (c3 s) st ⟨dO,s.b,s.e,0,c3 s⟩:=
 ⟨fun x ad=>⟨(aH x ad).1,w9 (fun k ae=>Em ae) _ (aH x ad).2⟩,fun k cs ar=>⟨ab k cs ar,Em (.inl (by simp[ar])),ki (fun k ae=>Em ae) _ (ag.kb k cs ar)⟩,
  fun k o aw=>⟨he k o aw,Em (.inr (by simp[aw])),fun xs ad=>ki (fun k ae=>Em ae) _ (ag.ke k o aw xs ad)⟩,fun m hm=>hm⟩
def cW(st:br)(eM:List bW)(R:ak->Prop):Prop:=match aU st eM with
 |some (c,cE)=>c/\R (eb (aT cE))
 |none=>eB
theorem cP.at{eM:List bW}{s:cR}{Q:ak->cR->Prop}{e:Exit}{st:br}(ah:cR)(sD:e= .ret\/e= .normal)(ag:dM ah)(fo:Same s ah)(ab:∀k cs,look k ah.b=some cs->look k st.b=some cs)(c8:∀k o,look k ah.e=some o->look k st.e=some o)
  (h:cW st eM fun r=>aJ (inObs ah) r/\Q r ah):cP eM s Q e st:=by
 unfold cW at h;split at h
 ·rename_i c cE aK;exact cP.ob sD aK h.1 ag fo ab c8 h.2.1 h.2.2
 ·exact h.elim
theorem hH.ob{P:cJ}{nw:List Nat}{n:Nat}{args:List ak}{st:br}{d:Option Nat}{K:br->Prop}{s ah:cR}{r:ak}(aQ:bI P n args s fun eQ dO=>eQ=r/\dO=ah)(ag:dM s)(fe:dM ah)(fo:Same s ah)(ab:∀k cs,look k s.b=some cs->look k st.b=some cs)(he:∀k o,look k s.e=some o->look k st.e=some o)
  (ae:aN (inObs s) args) (h:K ⟨eY d r st.t,cb s.b st.b++ah.b,cb s.e st.e++ah.e,st.n,st.o⟩):hH P false nw n args st d K:=
 .inr ⟨s,ah,r,none,fun k cs ar=>⟨ab k cs ar,.inl (by simp[ar]),ag.kb k cs ar⟩,fun k o aw=>⟨he k o aw,.inr (by simp[aw]),ag.ke k o aw⟩,ag.obj,fe.obj,⟨fun k ae=>.inl (by rw[fo.b];exact ae),fun k ae=>.inl (by rw[fo.e];exact ae),fun k ae=>by rw[<-fo.b];exact ae,fun k ae=>by rw[<-fo.e];exact ae,fun k ae=>by cases ae⟩,ae,aQ,(fun e=>by cases e),h⟩
theorem dM.of{s:cR}(aw:iV s)(ab:∀x∈s.b,aN (inObs s) x.2)(he:∀x∈s.e,∀xs,x.2.xs=some xs->aN (inObs s) xs):dM s:=⟨aw,fun k cs ae=>ab (k,cs) (uu ae),fun k o ae xs ad=>he (k,o) (uu ae) xs ad⟩
@[simp]theorem auc(b:List (aM×List ak))(e:List (aM×fQ)):c3 ⟨b,e⟩=b.map (·.1)++e.map (·.1):=rfl
theorem Cc{α:Type}{k:aM}{p:α}:∀{a r:List (aM×α)},look k a=none->cF k p (a++r)=a++cF k p r
 |[],_,_=>rfl
 |(i,y)::a,r,h=>by
  simp only[look]at h;split at h
  ·cases h
  ·rename_i cK;simp[cF,cK,Cc h]
theorem akh{α:Type}{s b:List (aM×α)}(h:∀p∈s,look p.1 b=some p.2):∀k x,look k s=some x->look k b=some x:=fun k x ad=>h (k,x) (uu ad)
theorem eD{S:aM->Prop}{b1 b:List (aM×List ak)}(h:∀p∈b1,look p.1 b=some p.2/\S p.1/\aN S p.2):gL S b1 b:=fun k x ad=>h (k,x) (uu ad)
theorem eE{S:aM->Prop}{b1 b:List (aM×fQ)}(h:∀p∈b1,look p.1 b=some p.2/\S p.1/\eg S p.2):oa S b1 b:=fun k x ad=>h (k,x) (uu ad)
theorem aL{α:Type}{s b:List (aM×α)}(h:∀k x,look k s=some x->look k b=some x:=by first|(refine akh ?_;simp;done)|(intro k x ad;first|exact ad|(simp[ad,hr];done)|(simp[cS,hr,ad];done)|(cases k<;>simp_all[cS];done))):∀k x,look k s=some x->look k b=some x:=h
theorem bT{ob:List aM}{st st':br}(J:∀x∈st'.t,get x.1 st.t=x.2/\aJ (fun k=> ¬fresh st'.n st'.o k) x.2:=by simp[fresh,aN,aJ,cz,inObs,Pv.look])(U:∀p∈st'.b,look p.1 st.b=some p.2/\(¬fresh st'.n st'.o p.1)/\aN (fun k=> ¬fresh st'.n st'.o k) p.2:=by simp[fresh,aN,aJ,cz,inObs,Pv.look])(ao:∀p∈st'.e,look p.1 st.e=some p.2/\(¬fresh st'.n st'.o p.1)/\eg (fun k=> ¬fresh st'.n st'.o k) p.2:=by simp[fresh,aN,aJ,eg,inObs,Pv.look])(a6:∀m∈ob,m∈st'.o:=by simp):jc ob st st':=⟨J,eD U,eE ao,a6⟩
theorem bP.next{ob:List aM}{hv:Nat->br->Prop}{k:Nat}{Q:Exit->br->Prop}{st:br}(bH:Nat){ah:br}(ae:bH<k)(hi:hv bH ah)(hw:jc ob st ah):bP ob hv k Q .normal st:=⟨bH,ah,ae,hw,hi⟩
def kP:List (Int×ak)->List ak
 |[]=>[]
 |(k,v)::r=>.int .i64 k::v::kP r
def kG(l:List (Int×ak)):List ak:= .hdm l.length (List.range l.length)::kP l
def x1(k:Int):List (Int×ak)->Option ak
 |[]=>none
 |(i,v)::r=>if k=i then some v else x1 k r
def p2(k:Int)(v:ak):List (Int×ak)->Option (List (Int×ak))
 |[]=>none
 |(i,w)::r=>if k=i then some ((k,v)::r)else match p2 k v r with|some eQ=>some ((i,w)::eQ)|none=>none
def FP(k:Int)(v:ak)(l:List (Int×ak)):List (Int×ak):=match p2 k v l with|some a8=>a8|none=>l++[(k,v)]
@[simp]theorem atV:[ak.hdm 0 []]=kG []:=rfl
theorem T1:∀a b,kP (a++b)=kP a++kP b
 |[],_=>rfl
 |(k,v)::r,b=>by simp[kP,T1 r b]
theorem Xc(k:Int):∀l,xf .i (.int .i64 k) (kP l)=some (x1 k l)
 |[]=>rfl
 |(i,v)::r=>by
  simp only[kP,xf,uo,x1];by_cases h:k=i
  ·simp[h]
  ·have:(k==i)=false:=by simp[h]
   simp[h,Xc k r,this]
theorem Qx{k:Int}{v:ak}:∀{l a8},p2 k v l=some a8->a8.length=l.length
 |[],_,h=>by simp[p2]at h
 |(i,w)::r,a8,h=>by
  simp only[p2]at h;split at h
  ·cases h;rfl
  ·split at h
   ·rename_i eQ aK;cases h;simp[Qx aK]
   ·cases h
theorem Xt(k:Int)(v:ak):∀l,vL .i (.int .i64 k) v (kP l)=some ((p2 k v l).map kP)
 |[]=>rfl
 |(i,w)::r=>by
  simp only[kP,vL,uo,p2];by_cases h:k=i
  ·subst h;simp[kP]
  ·simp only[and_self,if_true,h,if_false,dQ,Xt k v r];have:(k==i)=false:=by simp[h]
   rw[this];cases p2 k v r<;>simp[kP]
@[simp]theorem Xs(k:Int)(v:ak)(l:List (Int×ak)):pH .i (.int .i64 k) v (kG l)=some (kG (FP k v l)):=by
 simp only[kG,pH,Wv,Bool.true_eq_false,reduceCtorEq,if_false,Xt,FP];cases h:p2 k v l with
 |some a8=>simp[Qx h]
 |none=>simp[T1,kP,List.range_succ]
@[simp]theorem akG(f:aM->Option (List ak))(m:aM)(l:List (Int×ak))(z:ak)(ok:Bool)(k:Int)(hm:f m=some (kG l)):oM f .i z ok (.gmap m) (.int .i64 k)=(match x1 k l with
  |some v=>some (True,if ok then .tuple [v,.bool true]else v)
  |none=>some (True,if ok then .tuple [z,.bool false]else z)):=by
 simp only[Xe,hm,kG,Wv,Bool.true_eq_false,reduceCtorEq,if_false,Xc];cases x1 k l<;>rfl
def cz(n:Nat)(seen:List Nat)(m:aM):List ak:=[.hdi n seen n,.gmap m]
@[simp]theorem aup(m:aM)(l:List (Int×ak)):zh m (kG l)=some (cz l.length [] m):=rfl
@[simp]theorem aul(l:List (Int×ak)):ie (kG l)=false:=rfl
theorem Nh(b:Nat):∀(n:Nat) (l:List (Int×ak)),ny b (List.range' n l.length) (kP l)=(if n<=b then(l[b-n]?).map fun x=>.tuple [.int .i64 x.1,x.2]else none)
 |n,[]=>by simp[ny,kP]
 |n,(k,v)::r=>by
  simp only[oj,List.range'_succ,kP,ny];by_cases h:n=b
  ·subst h;simp
  ·rw[if_neg h,Nh b (n+1) r];by_cases U:n<=b
   ·rw[if_pos U,if_pos Ω];have:b-n=(b-(n+1))+1:=Ω
    rw[this];simp
   ·rw[if_neg U,if_neg Ω]
@[simp]theorem Xa(f:aM->Option (List ak))(fv mk:aM)(n:Nat)(seen:List Nat)(b:Nat)(l:List (Int×ak))(hi:f fv=some (cz n (seen++[b]) mk))(hm:f mk=some (kG l))(au:n=l.length):qm f (.ptr fv 0)=(l[b]?).map fun x=>(True,.tuple [.int .i64 x.1,x.2]):=by subst au;simp only[Xb,hi,hm,cz,kG,List.getLast?_append,List.getLast?_singleton,Option.some_or,List.range_eq_range',Nh,Nat.zero_le,if_true,Nat.sub_zero,Option.map_map];cases l[b]?<;>simp
theorem Tw{st:br}{d:Nat}{K:br->Prop}{fv mk:aM}{n:Nat}{seen:List Nat}{l:List (Int×ak)}(hi:look fv st.b=some (cz n seen mk))(hm:look mk st.b=some (kG l))(au:n=l.length)
  (J:(∀b,b<n->b∈seen)->K {st with t:=put d (.tuple [.bool false]) st.t}) (U:∀b k v,l[b]? =some (k,v)->b∉seen->K {st with t:=put d (.tuple [.bool true,.int .i64 k,v]) st.t,b:=cF fv (cz n (seen++[b]) mk) st.b}):
  tP st d (.ptr fv 0) K:=by
 subst au;simp only[tP,hi,cz,hm,kG,Ny,and_self,true_and];refine⟨fun h=>J fun b ab=>h b (by simpa using ab),fun b k v yC ab=>?_⟩;rw[List.range_eq_range',Nh]at yC;simp only[Nat.zero_le,if_true,Nat.sub_zero,gm,ak.tuple.injEq,zK,and_true]at yC;obtain⟨⟨bH,v'⟩,aq,aG,bG⟩:=yC;simp only at aG bG;subst aG bG;exact U b bH v' aq ab
theorem ano{n:Nat}{seen:List Nat}(aF:seen.Nodup)(bz:∀b∈seen,b<n)(l3:∀b,b<n->b∈seen):seen.Perm (List.range n):=(List.perm_ext_iff_of_nodup aF List.nodup_range).2 fun b=>⟨fun h=>by simpa using bz b h,fun h=>l3 b (by simpa using h)⟩
theorem Je{n:Nat}{seen:List Nat}(aF:seen.Nodup)(bz:∀b∈seen,b<n):seen.length<=n:=by have:=Fx aF (l₂:=List.range n) (fun b ab=>by simpa using bz b ab);simpa using this
theorem O0{n b:Nat}{seen:List Nat}(aF:seen.Nodup)(bz:∀b∈seen,b<n)(ab:b<n)(au:b∉seen):seen.length<n:=by have J:(b::seen).Nodup:=List.nodup_cons.2 ⟨au,aF⟩;have:=Je J (n:=n) (by simp;exact⟨ab,bz⟩);simp at this;omega
theorem Za{α:Type}:∀(l pre:List α),(List.range' pre.length l.length).filterMap (fun b=>(pre++l)[b]?)=l
 |[],_=>rfl
 |x::r,pre=>by have bR:=Za r (pre++[x]);simp only[o0,List.length_singleton,List.append_assoc,List.singleton_append]at bR;simp[List.range'_succ,bR]
theorem OZ{α:Type}{l:List α}{seen:List Nat}(aF:seen.Nodup)(bz:∀b∈seen,b<l.length)(l3:∀b,b<l.length->b∈seen):(seen.filterMap fun b=>l[b]?).Perm l:=by have J:=(ano aF bz l3).filterMap fun b=>l[b]?;have U:=Za l [];simp only[List.length_nil,b4,<-List.range_eq_range']at U;rwa[U]at J
theorem NC{b:Nat}{seen:List Nat}(aF:seen.Nodup)(au:b∉seen):(seen++[b]).Nodup:=by rw[List.nodup_append];exact⟨aF,Ψ,by simp;intro a bm e;subst e;exact au bm⟩
theorem cY.start{w:World}{ν:be}{s:cR}{args:List ak}{a7:Array Value}(qi:iV s)(aX:Good (fq ν s) w ν s.b s.e)(ad:pe ν s)(aK:cT w ν args a7.toList):
  cY ⟨w,ν,fq ν s,a7.size,c3 s⟩ ⟨j8 0 args,s.b,s.e,0,c3 s⟩ {tmps:=a7,defers:=[]} w ν:=by
 have iT:=zk aK;have kW:a7.size=args.length:=by simpa using iT
 have ps:∀k,fresh 0 (c3 s) k->ν.bx k=none/\ν.ow k=none/\∀j b,¬ν.tr k j b:=by
  intro k ae;cases k with
  |loc m=>exact⟨(ad _).1 (qi.1 m),(ad _).2.1 (qi.2 m),(ad _).2.2⟩
  |obj m=>
   simp only[fresh,true_and]at ae;refine⟨?_,?_,(ad _).2.2⟩
   ·refine(ad _).1 ?_;cases h:look (.obj m) s.b with
    |none=>rfl
    |some x=>exact absurd (uz (.inl (by simp[h]))) ae
   ·refine(ad _).2.1 ?_;cases h:look (.obj m) s.e with
    |none=>rfl
    |some x=>exact absurd (uz (.inr (by simp[h]))) ae
 have jw:∀m,(ν.bx (.obj m)≠none\/ν.ow (.obj m)≠none)-> .obj m∈c3 s:=by
  intro m hm;refine Classical.byContradiction fun ar=>?_;obtain⟨J,U,_⟩:=ps (.obj m) ⟨trivial,ar⟩;rcases hm with hm|hm
  ·exact hm J
  ·exact hm U
 refine⟨⟨aX.alt,fun k cs ae=>?_,aX.inj,fun g o dR=>?_,aX.oinj,aX.obx,aX.one,aX.otr⟩,⟨rfl,rfl,rfl,eu _,fun _ _ _=>rfl,fun b o h=>⟨h,rfl⟩,fun b o h=>.inl h,fun n b h=>h,fun n b h=>jw n (.inl (by rw[h];simp)),fun m n u h=>⟨n,u,h,.inl ⟨rfl,rfl⟩⟩,fun m n u h=>jw m (.inr (by rw[h];simp)),fun k j _ _ b h=>absurd h ((ad k).2.2 j b),fun k j b h=>absurd h ((ad k).2.2 j b),fun k j b h=>absurd h ((ad k).2.2 j b),fun _ _ _=>rfl⟩,rfl,rfl,fun i=>?_,ps⟩
 ·obtain⟨bl,us,el,g1,g2,g3⟩:=aX.box k cs ae;exact⟨bl,us,el,g1,.inl g2,g3⟩
 ·obtain⟨v,us,g1,g2,g3,g4⟩:=aX.own g o dR;exact⟨v,us,g1,g2,fun bl fm=>⟨.inl (g3 bl fm).1,(g3 bl fm).2⟩,g4⟩
 ·rw[GL];by_cases hi:i<args.length
  ·rw[if_pos Ω];have rD:args[i]? =some args[i]:=bY hi;obtain⟨v,aq,aG⟩:=EP i aK rD;have CL:a7[i]? =some v:=by simpa using aq
   show bc w ν _ (a7.getD i undef);rw[Array.getD_eq_getD_getElem?,CL];simpa[List.getD,rD]using aG
  ·rw[if_neg Ω];simp[bc]
theorem bI.sem{P:cJ}{f:FuncId}{args:List ak}{s:cR}{Q:ak->cR->Prop}(qi:iV s)
  (h:∀(w:World) (ν:be) (a7:Array Value),a7.size=args.length->cY ⟨w,ν,fq ν s,a7.size,c3 s⟩ ⟨j8 0 args,s.b,s.e,0,c3 s⟩ {tmps:=a7,defers:=[]} w ν->
   xT P f a7 w fun e w'=> ∃v st' bn bo r ah,e= .returned v/\cY ⟨w,ν,fq ν s,a7.size,c3 s⟩ st' bn w' bo/\bc w' bo r v/\kh ah s.b/\kh ah s.e/\gL (inObs ah) ah.b st'.b/\oa (inObs ah) ah.e st'.e/\iV ah/\aJ (inObs ah) r/\Q r ah):bI P f args s Q:=by
 intro w ν a7 aX ad aK;have kW:a7.size=args.length:=by simpa using zk aK
 have pw:=cY.start qi aX ad aK;have hm:∀(e:Ending) (w':World),(∃v st' bn bo r ah,e= .returned v/\cY ⟨w,ν,fq ν s,a7.size,c3 s⟩ st' bn w' bo/\bc w' bo r v/\kh ah s.b/\kh ah s.e/\gL (inObs ah) ah.b st'.b/\oa (inObs ah) ah.e st'.e/\iV ah/\aJ (inObs ah) r/\Q r ah)->
   ∃v r ah bo,e= .returned v/\Q r ah/\bc w' bo r v/\Good (fun bl=>fq ν s bl\/w.heap.size<=bl) w' bo ah.b ah.e/\pe bo ah/\iV ah/\qB ⟨w,ν,fq ν s,0,c3 s⟩ w' bo:=by
  rintro e w' ⟨v,st',bn,bo,r,ah,rfl,dp,pJ,kb,ke,a1,bp,bV,cQ,cZ⟩;refine⟨v,r,ah,bo.cut (inObs ah),rfl,cZ,kI (o5.cut _ w' bo) _ _ cQ pJ,dp.good.cut a1 bp (fun bl h _=>h),?_,bV,?_⟩
  ·intro k;refine⟨?_,?_,?_⟩;rotate_left 2
   ·rintro j b ⟨ag,ab⟩;obtain⟨t1,t2⟩:=dp.fr.trn k j b ab;rcases ag with ag|ag<;>obtain⟨x,iH⟩:=fE.1 ag
    ·obtain⟨bl,ck,el,aq,_⟩:=dp.good.box k x (a1 k x iH).1;rw[t1]at aq;cases aq
    ·obtain⟨v',ck,aq,_⟩:=dp.good.own k x (bp k x iH).1;rw[t2]at aq;cases aq
   ·intro ae;by_cases ag:inObs ah k
    ·rw[be.cut_bx ag];rcases ag with ag|ag
     ·rw[ae]at ag;cases ag
     ·obtain⟨x,iH⟩:=fE.1 ag;obtain⟨v',ck,aq,_⟩:=dp.good.own k x (bp k x iH).1;rcases dp.good.one k with J|J
      ·exact J
      ·rw[J]at aq;cases aq
    ·exact(be.cut_no ag).1
   ·intro ae;by_cases ag:inObs ah k
    ·rw[be.cut_ow ag];rcases ag with ag|ag
     ·obtain⟨x,iH⟩:=fE.1 ag;obtain⟨bl,ck,el,aq,_⟩:=dp.good.box k x (a1 k x iH).1;rcases dp.good.one k with J|J
      ·rw[J]at aq;cases aq
      ·exact J
     ·rw[ae]at ag;cases ag
    ·exact(be.cut_no ag).2.1
  ·refine⟨dp.fr.os,dp.fr.tape,dp.fr.output,dp.fr.size,dp.fr.block,dp.fr.keep,dp.fr.fresh,fun n b h=>?_,dp.fr.obn,fun m n u h=>?_,dp.fr.obr,fun k j bH dG b J U=>dp.fr.trd k j bH dG b J.2 U.2,fun k j b ab=>dp.fr.trb k j b ab.2,fun k j b ab=>(by rw[be.cut_bx ab.1,be.cut_ow ab.1];exact dp.fr.trn k j b ab.2),dp.fr.sh⟩
   ·have ag:inObs ah (.obj n):=by
     cases av:look (.obj n) s.b with
     |none=>rw[(ad _).1 av]at h;cases h
     |some x=>exact A9 kb _ (by simp[av])
    rw[be.cut_bx ag];exact dp.fr.obj n b h
   ·have ag:inObs ah (.obj m):=by
     cases av:look (.obj m) s.e with
     |none=>rw[(ad _).2.1 av]at h;cases h
     |some x=>exact A9 ke _ (by simp[av])
    rw[be.cut_ow ag];exact dp.fr.row m n u h
 rcases h w ν a7 kW pw with⟨rB,ar⟩|⟨v,w',ar,sJ⟩
 ·exact .inl ⟨rB,ar.mono hm⟩
 ·exact .inr ⟨v,w',ar,hm _ _ sJ⟩
theorem cY.grown{C:fj}{st:br}{a:Act}{w w':World}{ν:be}(h:cY C st a w ν)(aX:w.grownBy w' none):cY C st a w' ν:=by
 have ls:lZ w ν w' ν:=⟨fun b o bg=>⟨bg,Gj aX (h.good.alt b o bg)⟩,fun _ _ _ h=>h,fun _ n u _ h=>⟨n,u,h,.inl ⟨rfl,rfl⟩⟩,fun b o bg=>xz (aX.block b (h.good.alt b o bg) Ψ),fun _ _ _ _ h=>h⟩;refine h.over ls rfl ⟨fun b o bg=>Nat.lt_of_lt_of_le (h.good.alt b o bg) aX.size,fun k cs ae=>?_,h.good.inj,fun g o dR=>?_,h.good.oinj,h.good.obx,h.good.one,h.good.otr⟩
  ⟨aX.os.trans h.fr.os,aX.tape.trans h.fr.tape,aX.output.trans h.fr.output,gS h.fr.size aX.size,fun k ae hm=>?_,fun b o bg=>?_,h.fr.fresh,h.fr.obj,h.fr.obn,h.fr.row,h.fr.obr,h.fr.trd,fun k j b ab=>⟨(h.fr.trb k j b ab).1,Nat.lt_of_lt_of_le (h.fr.trb k j b ab).2 aX.size⟩,h.fr.trn,fun b o bg=>(ls.sh b o (h.fr.keep b o bg).1).trans (h.fr.sh b o bg)⟩ h.new
 ·obtain⟨bl,us,el,g1,g2,g3,g4,g5⟩:=h.good.box k cs ae;exact⟨bl,us,el,g1,g2,g3,by rw[aX.block bl (Array.getElem?_eq_some_iff.1 g4).1 Ψ];exact g4,qZ ls g5⟩
 ·obtain⟨v,us,g1,g2,g3,g4⟩:=h.good.own g o dR;exact⟨v,us,g1,g2.kept aX (by cases v.ownBlock<;>simp),g3,te ls (fun _ _ _ h=>h) g4⟩
 ·rw[aX.block k (Nat.lt_of_lt_of_le ae h.fr.size) Ψ];exact h.fr.block k ae hm
 ·obtain⟨aP,bd⟩:=h.fr.keep b o bg;exact⟨aP,(ls.A b o aP).2.trans bd⟩
theorem cO.new{P:cJ}{n:Nat}{args:List ak}{st:br}{d:Option Nat}{K:br->Prop}{s:cR}{Q:ak->cR->Prop}(aQ:bI P n args s Q)(ag:dM s)(ab:∀k cs,look k s.b=some cs->look k st.b=some cs)(he:∀k o,look k s.e=some o->look k st.e=some o)
  (ae:aN (inObs s) args) (h:∀r ah,Q r ah->(∀m,inObs ah (.obj m)->inObs s (.obj m)/\Same s ah\/ .obj m∉st.o)/\K ⟨eY d r st.t,cb s.b st.b++ah.b,cb s.e st.e++ah.e,st.n,st.o++c3 ah⟩):cO P n args st d K:=by
 refine .inl ⟨s,Q,fun k cs ar=>⟨ab k cs ar,.inl (by simp[ar]),ag.kb k cs ar⟩,fun k o aw=>⟨he k o aw,.inr (by simp[aw]),ag.ke k o aw⟩,ag.obj,ae,aQ,fun r ah bt=>?_⟩;obtain⟨J,U⟩:=h r ah bt;refine⟨⟨fun m hm=>?_,fun m hm=>?_⟩,U⟩
 ·rcases J m (.inl hm)with⟨_,ao⟩|ao
  ·exact .inl (by rw[ao.b];exact hm)
  ·exact .inr ao
 ·rcases J m (.inr hm)with⟨_,ao⟩|ao
  ·exact .inl (by rw[ao.e];exact hm)
  ·exact .inr ao
theorem cP.new{eM:List bW}{s:cR}{Q:ak->cR->Prop}{e:Exit}{st:br}(ah:cR)(sD:e= .ret\/e= .normal)(ag:dM ah)(fo:kh ah s.b/\kh ah s.e)(ab:∀k cs,look k ah.b=some cs->look k st.b=some cs)(c8:∀k o,look k ah.e=some o->look k st.e=some o)
  (h:cW st eM fun r=>aJ (inObs ah) r/\Q r ah):cP eM s Q e st:=by
 unfold cW at h;split at h
 ·rename_i c cE aK;refine⟨sD,?_⟩;rw[aK];exact⟨h.1,ah,fo.1,fo.2,fun k cs dn=>⟨ab k cs dn,.inl (by simp[dn]),ag.kb k cs dn⟩,fun k o aw=>⟨c8 k o aw,.inr (by simp[aw]),ag.ke k o aw⟩,ag.obj,h.2.1,h.2.2⟩
 ·exact h.elim
@[simp]theorem ar8{P:cJ}{ob:List aM}{c d:C}{Q:Exit->br->Prop}{st:br}{s:Nat}:c5 P ob (.seq (.pub s c) d) Q st=xW P ob (.seq c d) Q (xt st s):=by simp only[c5];cases xt st s<;>rfl
@[simp]theorem ar7{P:cJ}{ob:List aM}{c d:C}{Q:Exit->br->Prop}{st:br}{s:Nat}:c5 P ob (.seq (.pubB s c) d) Q st=xW P ob (.seq c d) Q (xr st s):=by simp only[c5];cases xr st s<;>rfl
end
section
open Go Go.RowKit
def vA(t:List (Nat×ak))(ch:List Nat):List (Nat×ak):=ch.map fun k=>(k,get k t)
@[simp]theorem atc(t:List (Nat×ak)):vA t []=[]:=rfl
@[simp]theorem atb(t:List (Nat×ak))(k:Nat)(ch:List Nat):vA t (k::ch)=(k,get k t)::vA t ch:=rfl
def qo(st:br)(ch:List Nat)(cs:List (Nat×ak)):br:=⟨vA st.t ch++cs,st.b,st.e,st.n,st.o⟩
theorem akV(t:List (Nat×ak))(b:List (aM×List ak))(e:List (aM×fQ))(n:Nat)(o:List aM)(ch:List Nat)(cs:List (Nat×ak)):qo ⟨t,b,e,n,o⟩ ch cs=⟨vA t ch++cs,b,e,n,o⟩:=rfl
def zM{α:Type}(S:Nat->α->br)(n:Nat)(hg:Nat->α->Prop)(k:Nat)(st:br):Prop:= ∃i a,i<=n/\k=n-i/\hg i a/\st=S i a
section
variable {P:cJ} {ob:List aM} {st:br} {Q:Exit->br->Prop} {c:C} {α:Type}
theorem h0(S:Nat->α->br)(n:Nat)(hg:Nat->α->Prop)(a0:α)(hw:jc ob st (S 0 a0))(bE:hg 0 a0)(tY:∀a,hg n a->(∀i,fZ (get i (S n a).t))->c5 P ob c (bP ob (zM S n hg) 0 Q) (S n a))
  (h2:∀i a,i<n->hg i a->(∀j,fZ (get j (S i a).t))->c5 P ob c (bP ob (zM S n hg) (n-i) Q) (S i a)):c5 P ob (.loop c) Q st:=by
 refine nJ (zM S n hg) n _ hw ⟨0,a0,Ω,Ω,bE,rfl⟩ ?_;rintro k s ⟨i,a,hi,rfl,af,rfl⟩ ab _;rcases Nat.lt_or_ge i n with h|h
 ·exact h2 i a h af ab
 ·obtain rfl:i=n:=Ω
  rw[Nat.sub_self];exact tY a af ab
theorem bP.rng{S:Nat->α->br}{n:Nat}{hg:Nat->α->Prop}{i:Nat}(bn:α)(hi:i<n)(af:hg (i+1) bn)(hw:jc ob st (S (i+1) bn)):bP ob (zM S n hg) (n-i) Q .normal st:=⟨n-(i+1),_,Ω,hw,i+1,bn,Ω,rfl,af,rfl⟩
def Cn{α:Type}(S:α->br)(μ:α->Nat)(hg:α->Prop)(k:Nat)(st:br):Prop:= ∃a,k=μ a/\hg a/\st=S a
theorem pd(S:α->br)(μ:α->Nat)(hg:α->Prop)(a0:α)(hw:jc ob st (S a0))(bE:hg a0)
  (h2:∀a,hg a->(∀j,fZ (get j (S a).t))->c5 P ob c (bP ob (Cn S μ hg) (μ a) Q) (S a)):c5 P ob (.loop c) Q st:=by
 refine nJ (Cn S μ hg) (μ a0) _ hw ⟨a0,rfl,bE,rfl⟩ ?_;rintro k s ⟨a,rfl,af,rfl⟩ ab _;exact h2 a af ab
theorem bP.whl{S:α->br}{μ:α->Nat}{hg:α->Prop}{k:Nat}(bn:α)(hm:μ bn<k)(af:hg bn)(hw:jc ob st (S bn)):bP ob (Cn S μ hg) k Q .normal st:=⟨μ bn,_,hm,hw,bn,rfl,af,rfl⟩
end
theorem gX{p:Prop}(h:p:=by(try simp[*]);(repeat' first|with_reducible refine aj ?_|with_reducible refine aA (by assumption) ?_|with_reducible refine aB (by assumption) ?_|simp[*]);(all_goals first|exact bP.rng () (by assumption) (by first|assumption|trivial) bT|exact bP.rng _ (by assumption) (by assumption) bT)):p:=h
end
section
open Go Go.RowKit
def mK(s:cR)(n:Nat)(k:aM):Prop:=inObs s k\/ ∃m,m<n/\k= .loc m
@[simp]theorem Xw(s:cR)(n m:Nat)(hm:m<n):mK s n (.loc m):= .inr ⟨m,hm,rfl⟩
theorem Bt{s:cR}{n:Nat}{l:List ak}(h:aN (inObs s) l):aN (mK s n) l:=ki (fun _ h=>.inl h) l h
theorem y2{s ah:cR}(fo:Same s ah){n:Nat}{k:aM}(h:mK ah n k):¬fresh n (c3 s) k:=by
 rcases h with h|⟨m,hm,rfl⟩
 ·exact fun aQ=>aQ.2 (uz ((fo.inObs k).2 h))
 ·intro aQ;have:=aQ.1;simp at this;omega
theorem jc.obL{s ah:cR}(fe:dM ah)(fo:Same s ah){st:br}{dO:List (Nat×ak)}{L:List (aM×List ak)}{n:Nat}(aH:∀x∈dO,get x.1 st.t=x.2/\aJ (mK ah n) x.2)(gU:∀x∈L,look x.1 st.b=some x.2/\mK ah n x.1/\aN (mK ah n) x.2)
  (ab:∀k cs,look k ah.b=some cs->look k st.b=some cs) (he:∀k o,look k ah.e=some o->look k st.e=some o):jc (c3 s) st ⟨dO,L++ah.b,ah.e,n,c3 s⟩:=by
 refine⟨fun x ad=>⟨(aH x ad).1,w9 (fun k ae=>y2 fo ae) _ (aH x ad).2⟩,fun k cs ae=>?_,fun k o aw=>?_,fun m hm=>hm⟩
 ·simp only at ae;rw[cS]at ae;cases av:look k L with
  |some x=>rw[av]at ae;simp only[dE]at ae;subst ae;obtain⟨J,U,ao⟩:=gU _ (uu av);exact⟨J,y2 fo U,ki (fun k ae=>y2 fo ae) _ ao⟩
  |none=>rw[av]at ae;exact⟨ab k cs ae,y2 fo (.inl (.inl (by simp[ae]))),ki (fun k ae=>y2 fo (.inl ae)) _ (fe.kb k cs ae)⟩
 ·exact⟨he k o aw,y2 fo (.inl (.inr (by simp at aw;simp[aw]))),fun xs ad=>ki (fun k ae=>y2 fo (.inl ae)) _ (fe.ke k o aw xs ad)⟩
def hA{α:Type}(l:List α)(i j:Nat):List α:=match l[i]?,l[j]? with
 |some x,some y=>(l.set i y).set j x
 |_,_=>l
section
variable {α:Type}
@[simp]theorem akq(l:List α)(i j:Nat):(hA l i j).length=l.length:=by unfold hA;split<;>simp
theorem Bh(l:List α)(i j k:Nat)(hi:i<l.length)(af:j<l.length):(hA l i j)[k]? =if k=i then l[j]? else if k=j then l[i]? else l[k]?:=by
 unfold hA;rw[bY hi,bY af];simp only[List.getElem?_set,List.length_set];by_cases J:j=k
 ·subst J;by_cases U:j=i
  ·subst U;simp[hi]
  ·simp[U,af]
 ·by_cases U:i=k
  ·subst U;simp[J,hi]
  ·simp[J,U,lF J,lF U]
theorem WY(l:List α)(i j:Nat):(hA l i j).Perm l:=by
 unfold hA;split
 ·rename_i x y ad aC;obtain⟨hi,rfl⟩:=eS.1 ad;obtain⟨af,rfl⟩:=eS.1 aC;exact List.set_set_perm hi af
 ·exact .refl _
inductive gH (a b:Nat):List α->List α->Prop
 |refl (l:List α):gH a b l l
 |step {l m:List α} {i j:Nat}:gH a b l m->a<=i->i<b->a<=j->j<b->i<m.length->j<m.length->gH a b l (hA m i j)
theorem gH.length{a b:Nat}{l m:List α}(h:gH a b l m):m.length=l.length:=by
 induction h with
 |refl=>rfl
 |step _ _ _ _ _ _ _ bR=>rw[akq,bR]
theorem gH.perm{a b:Nat}{l m:List α}(h:gH a b l m):m.Perm l:=by
 induction h with
 |refl=>exact .refl _
 |step _ _ _ _ _ _ _ bR=>exact(WY _ _ _).trans bR
theorem gH.out{a b:Nat}{l m:List α}(h:gH a b l m)(k:Nat)(ae:k<a\/b<=k):m[k]? =l[k]?:=by
 induction h with
 |refl=>rfl
 |step _ J U ao a6 b7 dd bR=>rw[Bh _ _ _ _ b7 dd,if_neg Ω,if_neg Ω];exact bR
theorem gH.all{a b:Nat}{l m:List α}(h:gH a b l m)(p:α->Prop)(bD:∀k x,a<=k->k<b->l[k]? =some x->p x):∀k x,a<=k->k<b->m[k]? =some x->p x:=by
 induction h with
 |refl=>exact bD
 |step _ J U ao a6 b7 dd bR=>
  intro k x fH jZ ad;rw[Bh _ _ _ _ b7 dd]at ad;split at ad
  ·exact bR _ _ ao a6 ad
  ·split at ad
   ·exact bR _ _ J U ad
   ·exact bR _ _ fH jZ ad
theorem gH.trans{a b:Nat}{l m r:List α}(h:gH a b l m)(cd:gH a b m r):gH a b l r:=by
 induction cd with
 |refl=>exact h
 |step _ J U ao a6 b7 dd bR=>exact .step bR J U ao a6 b7 dd
theorem gH.mono{a b bn b1:Nat}{l m:List α}(h:gH a b l m)(bm:bn<=a)(ab:b<=b1):gH bn b1 l m:=by
 induction h with
 |refl=>exact .refl _
 |step _ J U ao a6 b7 dd bR=>exact .step bR Ω Ω Ω Ω b7 dd
def fl(lt:α->α->Bool)(a b:Nat)(l:List α):Prop:= ∀i j x y,a<=i->i<j->j<b->l[i]? =some x->l[j]? =some y->lt y x=false
structure q8 (lt:α->α->Bool):Prop where
 asym:∀x y,lt x y=true->lt y x=false
 ntr:∀x y z,lt y x=false->lt z y=false->lt z x=false
theorem fl.pairwise{lt:α->α->Bool}{l:List α}(h:fl lt 0 l.length l):l.Pairwise fun x y=>lt y x=false:=by rw[o2];intro i j hi af lp;exact h i j _ _ Ω lp af (bY hi) (bY af)
def ih(a m b k:Nat):Nat:=if k<a then k else if k<a+(b-m)then k+(m-a)else if k<b then k-(b-m)else k
def tq(a b c k:Nat):Nat:=if a<=k/\k<a+c then b+(k-a)else if b<=k/\k<b+c then a+(k-b)else k
end
theorem GU(i j:Nat)(h:i+j<=1099511627776):nD.wrap (Int.fdiv (hF.wrap ((i:Int)+j)) (2 ^ (min 1 hF.bits)))=((i+j)/2:Nat):=by
 have hw:hF.wrap ((i:Int)+j)=i+j:=by simp[tz,oh,r3];omega
 have LG:hF.bits=64:=rfl;rw[hw,LG,show(2:Int) ^ (min 1 64)=2 from by decide,Int.fdiv_eq_ediv_of_nonneg _ Ω,mT]
 ·omega
 ·omega
end
section
open Go Go.RowKit
section
variable {P:cJ} {ob:List aM} {st:br} {Q:Exit->br->Prop} {c:C} {α:Type}
theorem dT(ch:List Nat)(cs:Nat->α->List (Nat×ak))(n:Nat)(hg:Nat->α->Prop)(a0:α)(hw:jc ob st (qo st ch (cs 0 a0)))(bE:hg 0 a0)(tY:∀a,hg n a->(∀i,fZ (get i (qo st ch (cs n a)).t))->c5 P ob c (bP ob (zM (fun i a=>qo st ch (cs i a)) n hg) 0 Q) (qo st ch (cs n a)))
  (h2:∀i a,i<n->hg i a->(∀j,fZ (get j (qo st ch (cs i a)).t))->c5 P ob c (bP ob (zM (fun i a=>qo st ch (cs i a)) n hg) (n-i) Q) (qo st ch (cs i a))):c5 P ob (.loop c) Q st:=
 h0 (fun i a=>qo st ch (cs i a)) n hg a0 hw bE tY h2
theorem u9(ch:List Nat)(cs:α->List (Nat×ak))(μ:α->Nat)(hg:α->Prop)(a0:α)(hw:jc ob st (qo st ch (cs a0)))(bE:hg a0)
  (h2:∀a,hg a->(∀j,fZ (get j (qo st ch (cs a)).t))->c5 P ob c (bP ob (Cn (fun a=>qo st ch (cs a)) μ hg) (μ a) Q) (qo st ch (cs a))):c5 P ob (.loop c) Q st:=
 pd (fun a=>qo st ch (cs a)) μ hg a0 hw bE h2
end
attribute [simp] akV
end
end Go.Pv
namespace Go.Proofs.YtohaalphocaebaaGreat
section
open Go Go.Pv
def Sa:C:=(aa [cL 6 fW] (aa [I 7 0,I 8 1,b5 9 45 7 8,I 10 2,c2 11 44 [.t 9,.t 10,(dS 5)],bu 5 6 11] .ret))
@[simp] def aob:List bW:=[.cell 6 true 5]
def Sb:C:=(aa [cL 8 da] (aa [I 9 0,I 10 1,b5 11 45 9 10,I 12 2,I 13 3,c2 14 46 [.t 11,.t 12,.t 13],bu 4 8 14] .ret))
@[simp] def YR:List bW:=[.cell 8 true 4]
def R9:C:=(aa [b6 4 0] (aa [I 6 0,I 7 1,b5 8 45 6 7,I 5 8] (aa [I 9 5,cG 10 53 9,aS 11 .mul 10 256,I 12 5,cG 13 53 12,bq 14 .add 11 13,I 4 14] .ret)))
@[simp] def aoa:List bW:=[.tmp 4]
def SP:C:=(aa [cL 6 fW] (aa [I 12 1,gv 13 fW [(0,1,(.t 12))],cL 7 fW,bu 5 7 13] (.seq (aa [I 14 0,I 15 2,aS 16 .add 15 1,b5 17 110 14 16,I 8 17] (.block 0 (.loop (.seq (aa [I 18 8,aS 19 .gtr 18 0] (aZ 19 .skip (.exit 0))) (.seq (.block 1 (aa [I 22 0,I 23 1,c2 24 46 [.t 22,(dS 3),.t 23],cL 9 da,bu 4 9 24] (.seq (.drawn false 46 [aV 26 5 7,I 27 0,c2 28 110 [.t 27,(dS 4)],aV 29 4 9,I 30 0,I 31 1,c2 32 46 [.t 30,(dS 5),.t 31],I 33 0,c2 34 110 [.t 33,(dS 2)],b2 35 (.bin .add false (dS 2) (.t 34)),I 36 0,cX (.bsl 37 1 9 [(.c (.str [97])),(.c (.str [98]))]),b5 38 111 36 37,c2 39 93 [.t 26,.t 28,.t 29,.t 32,.t 35,.t 38],I 25 39,cj 40 0 25,cj 41 1 25,cL 10 fW,bu 5 10 40,I 11 41]) (aa [I 42 11] (aZ 42 (.region [aV 43 5 10,bu 5 7 43]) .skip))))) (.region [I 20 8,aS 21 .sub 20 1,I 8 21])))))) (aa [aV 44 5 7,cG 45 112 44,bu 5 6 45] .ret))))
@[simp] def OD:List bW:=[.cell 6 true 5]
def SU:C:=(aa [b2 4 (.mov (.c (.nilp)))] (aa [I 7 0,cG 8 113 7,I 5 8] (.seq (aa [b6 6 0] (.block 0 (.loop (.seq (aa [I 9 6,I 10 1,bq 11 .lss 9 10] (aZ 11 .skip (.exit 0))) (.seq (.block 1 (.region [I 14 5,cG 15 53 14])) (.region [I 12 6,aS 13 .add 12 1,I 6 13])))))) (aa [I 16 5,I 4 16] .ret))))
@[simp] def Y9:List bW:=[.tmp 4]
def Sp:C:=(aa [cL 6 da] (aa [I 9 0,c2 10 110 [.t 9,(dS 8)],I 7 10] (.seq (aa [I 11 1,aS 12 .gtr 11 2,I 13 12,bO 13 true 14 7,al 13 true (aS 15 .geq 14 3),de 16 13 15] (aZ 16 (aa [I 17 0,I 18 1,aS 19 .quo 18 2,I 20 2,c2 21 46 [.t 17,.t 19,.t 20],cL 8 da,bu 4 8 21] (.seq (.drawn false 42 [aV 22 4 8,I 23 0,I 24 1,aS 25 .quo 24 2,I 26 2,c2 27 46 [.t 23,.t 25,.t 26],b5 28 114 22 27,bu 4 6 28]) .ret)) .skip)) (.seq (aa [I 29 2,aS 30 .gtr 29 0,I 31 30,bO 31 true 32 7,al 31 true (aS 33 .rem 32 2),al 31 true (aS 34 .eql 33 0),de 35 31 34] (aZ 35 (aa [I 36 0,I 37 2,b5 38 110 36 37,cG 39 91 38,bu 4 6 39] .ret) .skip)) (aa [I 40 0,cG 41 115 40,bu 4 6 41] .ret)))))
@[simp] def IF:List bW:=[.cell 6 true 4]
def Kw:C:=(aa [b6 2 0] (aa [I 4 0,I 5 0,eO 6 5,aI 7 2 1 6,az 8 1 7,b2 9 (.bin .mul true (.t 8) (dS 6364136223846793005)),b2 10 (.bin .add true (.t 9) (dS 1442695040888963407)),eO 11 4,aI 12 2 1 11,bu 1 12 10] (.seq (.drawn true 58 [I 13 0,eO 14 13,aI 15 2 1 14,az 16 1 15,b2 17 (.bin .shr false (.t 16) (.c (.int .u64 33))),I 18 0,eO 19 18,aI 20 2 1 19,az 21 1 20,b2 22 (.bin .shr false (.t 21) (.c (.int .u64 45))),bq 23 .xor 17 22,aS 24 .and 23 255,I 3 24]) (.seq (.seq (.drawn true 58 [I 25 0,eO 26 25,aI 27 1 1 26,az 28 1 27,I 29 0,eO 30 29,aI 31 0 1 30,az 32 1 31,ct 33 32,bq 34 .lss 28 33]) (aZ 34 (.seq (.drawn true 58 [I 35 3,I 36 0,eO 37 36,aI 38 0 1 37,az 39 1 38,I 40 0,eO 41 40,aI 42 1 1 41,az 43 1 42,cw 44 1 39 43,az 45 1 44,b2 46 (.conv .i64 (.t 45)),bq 47 .add 35 46,aS 48 .and 47 255,I 3 48]) (.region [I 49 0,I 50 0,eO 51 50,aI 52 1 1 51,az 53 1 52,aS 54 .add 53 1,eO 55 49,aI 56 1 1 55,bu 1 56 54])) .skip)) (aa [I 57 3,I 2 57] .ret)))))
@[simp] def Ot:List bW:=[.tmp 2]
def Si:C:=(aa [b6 4 0] (.seq (aa [I 5 1,aS 6 .leq 5 0] (aZ 6 (aa [b6 4 0] .ret) .skip)) (aa [I 7 0,cG 8 53 7,I 9 1,bq 10 .rem 8 9,I 4 10] .ret)))
@[simp] def Oq:List bW:=[.tmp 4]
def Sl:C:=(aa [b2 4 (.mov (.c (.str [])))] (aa [I 5 1,I 6 0,I 7 1,ct 8 7,b5 9 110 6 8,cw 10 1 5 9,az 11 1 10,I 4 11] .ret))
@[simp] def YW:List bW:=[.tmp 4]
def Sk:C:=(aa [b2 2 (.mov (.c (.nilp)))] (aa [I 5 0,ct 6 5,b2 7 (.bin .add false (dS 90411) (.t 6)),I 3 7] (.seq (aa [b6 4 0] (.block 0 (.loop (.seq (aa [I 8 4,I 9 0,ct 10 9,bq 11 .lss 8 10,I 12 11,bO 12 true 13 4,al 12 true (aS 14 .lss 13 4000),de 15 12 14] (aZ 15 .skip (.exit 0))) (.seq (.block 1 (.region [I 18 3,aS 19 .mul 18 131,I 20 0,I 21 4,cw 22 1 20 21,az 23 1 22,b2 24 (.conv .i64 (.t 23)),bq 25 .add 19 24,aS 26 .add 25 7,aS 27 .and 26 1073741823,I 3 27])) (.region [I 16 4,aS 17 .add 16 1,I 4 17])))))) (aa [I 28 0,I 29 3,b2 30 (.build [.slice 1 .nil [],.int .i64 0,.int .i64 0] [(0,1,(.t 28)),(2,1,(.t 29))]),cX (.box 31 (some 401) (.t 30)),I 2 31] .ret))))
@[simp] def YV:List bW:=[.tmp 2]
def Sm:C:=(aa [cL 2 da] (aa [I 4 0,c2 5 110 [.t 4,(dS 7)],I 3 5] (.seq (aa [I 6 3,aS 7 .lss 6 2] (aZ 7 (aa [I 8 3,cG 9 192 8,bu 4 2 9] .ret) .skip)) (.seq (aa [I 10 3,aS 11 .lss 10 5] (aZ 11 (aa [cX (.bsl 12 1 9 [(.c (.str [97])),(.c (.str [98])),(.c (.str [99]))]),I 13 3,aS 14 .sub 13 2,cw 15 1 12 14,az 16 1 15,cG 17 184 16,bu 4 2 17] .ret) .skip)) (aa [gv 18 da [],bu 4 2 18] .ret)))))
@[simp] def YX:List bW:=[.cell 2 true 4]
def Sx:C:=(aa [cL 2 da] (aa [I 3 0,gv 4 da [(0,1,(dS 2)),(2,1,(.t 3))],bu 4 2 4] .ret))
@[simp] def Y3:List bW:=[.cell 2 true 4]
def Ss:C:=(aa [cL 2 da] (aa [I 3 0,gv 4 da [(0,1,(dS 3)),(1,1,(.t 3))],bu 4 2 4] .ret))
@[simp] def YZ:List bW:=[.cell 2 true 4]
def qx:List (Nat×dB):=[
 (3,⟨1,8,.int .i64,.int .i64 0⟩),
 (5,⟨1,1,.int .u8,.int .u8 0⟩),
 (9,⟨1,16,.str,.str []⟩),
 (22,⟨1,24,.slice 5,.slice 1 .nil []⟩),
 (23,⟨1,24,.slice 61,.slice 5 .nil []⟩),
 (24,⟨1,24,.slice 23,.slice 1 .nil []⟩),
 (25,⟨1,24,.slice 104,.slice 2 .nil []⟩),
 (26,⟨1,24,.slice 106,.slice 2 .nil []⟩),
 (28,⟨5,104,.struct [(0,3),(1,23),(2,24),(3,25),(4,26)],.agg [.int .i64 0,.slice 5 .nil [],.slice 1 .nil [],.slice 2 .nil [],.slice 2 .nil []]⟩),
 (30,⟨1,24,.slice 32,.slice 4 .nil []⟩),
 (32,⟨4,56,.struct [(0,3),(1,3),(2,9),(3,30)],.agg [.int .i64 0,.int .i64 0,.str [],.slice 4 .nil []]⟩),
 (145,⟨1,24,.slice 9,.slice 1 .nil []⟩),
 (162,⟨3,40,.struct [(0,22),(1,3),(2,3)],.agg [.slice 1 .nil [],.int .i64 0,.int .i64 0]⟩)]
theorem qy:fM ax qx=true:=by kernel_rfl
theorem amv:b3 qx Sa aob 3 Tryz.f10=true:=by kernel_rfl
theorem afr:ax.funcs[(10:Nat)]? =some Tryz.f10:=Tryz.func10
theorem amw:b3 qx Sb YR 4 Tryz.f11=true:=by kernel_rfl
theorem afs:ax.funcs[(11:Nat)]? =some Tryz.f11:=Tryz.func11
theorem amu:b3 qx R9 aoa 2 Tryz.f15=true:=by kernel_rfl
theorem afq:ax.funcs[(15:Nat)]? =some Tryz.f15:=Tryz.func15
theorem am9:b3 qx SP OD 3 Tryz.f44=true:=by kernel_rfl
theorem af5:ax.funcs[(44:Nat)]? =some Tryz.f44:=Tryz.func44
theorem anc:b3 qx SU Y9 2 Tryz.f45=true:=by kernel_rfl
theorem af8:ax.funcs[(45:Nat)]? =some Tryz.f45:=Tryz.func45
theorem amJ:b3 qx Sp IF 3 Tryz.f46=true:=by kernel_rfl
theorem afF:ax.funcs[(46:Nat)]? =some Tryz.f46:=Tryz.func46
theorem XS:b3 qx Kw Ot 1 Tryz.f53=true:=by kernel_rfl
theorem TS:ax.funcs[(53:Nat)]? =some Tryz.f53:=Tryz.func53
theorem amD:b3 qx Si Oq 2 Tryz.f110=true:=by kernel_rfl
theorem afz:ax.funcs[(110:Nat)]? =some Tryz.f110:=Tryz.func110
theorem amG:b3 qx Sl YW 2 Tryz.f111=true:=by kernel_rfl
theorem afC:ax.funcs[(111:Nat)]? =some Tryz.f111:=Tryz.func111
theorem amF:b3 qx Sk YV 1 Tryz.f113=true:=by kernel_rfl
theorem afB:ax.funcs[(113:Nat)]? =some Tryz.f113:=Tryz.func113
theorem amH:b3 qx Sm YX 1 Tryz.f115=true:=by kernel_rfl
theorem afD:ax.funcs[(115:Nat)]? =some Tryz.f115:=Tryz.func115
theorem amR:b3 qx Sx Y3 1 Tryz.f184=true:=by kernel_rfl
theorem afN:ax.funcs[(184:Nat)]? =some Tryz.f184:=Tryz.func184
theorem amM:b3 qx Ss YZ 1 Tryz.f192=true:=by kernel_rfl
theorem afI:ax.funcs[(192:Nat)]? =some Tryz.f192:=Tryz.func192
end
end Go.Proofs.YtohaalphocaebaaGreat
namespace Go.Pv
section
open Go
inductive bU where
 |mk (kind n:Int) (name:List c0) (args:List bU)
def bU.kind:bU->Int| .mk k _ _ _=>k
def bU.num:bU->Int| .mk _ n _ _=>n
def bU.name:bU->List c0| .mk _ _ s _=>s
def bU.args:bU->List bU| .mk _ _ _ a=>a
mutual
def enc:bU->ak
 | .mk k n s a=>.agg [.int .i64 k,.int .i64 n,.str s,.slice 4 .no (rp a)]
def rp:List bU->List ak
 |[]=>[]
 |x::xs=>enc x::rp xs
end
theorem Gu:∀l,rp l=l.map enc
 |[]=>rfl
 |x::xs=>by simp[rp,Gu xs]
theorem CN(t:bU):enc t= .agg [.int .i64 t.kind,.int .i64 t.num,.str t.name,.slice 4 .no (t.args.map enc)]:=by cases t;simp[enc,Gu,bU.kind,bU.num,bU.name,bU.args]
mutual
theorem WI(S:aM->Prop):∀t:bU,aJ S (enc t)
 | .mk k n s a=>by simp[enc,aJ,aN,MV S a]
theorem MV(S:aM->Prop):∀l:List bU,aN S (rp l)
 |[]=>by simp[rp,aN]
 |x::xs=>by simp[rp,aN,WI S x,MV S xs]
end
mutual
theorem ZT:∀t:bU,eb (enc t)=enc t
 | .mk k n s a=>by simp[enc,eb,c7,Pg a]
theorem Pg:∀l:List bU,c7 (rp l)=rp l
 |[]=>by simp[rp,c7]
 |x::xs=>by simp[rp,c7,ZT x,Pg xs]
end
@[simp]theorem atv(S:aM->Prop)(t:bU):aJ S (enc t)=True:=eq_true (WI S t)
@[simp]theorem atm(S:aM->Prop)(l:List bU):aN S (l.map enc)=True:=by rw[<-Gu];exact eq_true (MV S l)
theorem api(l:List bU):c7 (l.map enc)=l.map enc:=by rw[<-Gu];exact Pg l
attribute [simp] ZT api
@[simp]theorem auL(t:bU):eR (enc t)=true:=by rw[CN];rfl
@[simp]theorem arP(t:bU):cells (enc t)=[.int .i64 t.kind,.int .i64 t.num,.str t.name,.slice 4 .no (t.args.map enc)]:=by rw[CN];rfl
@[simp]theorem ara(t:bU):ak.agg [.int .i64 t.kind,.int .i64 t.num,.str t.name,.slice 4 .no (t.args.map enc)]=enc t:=(CN t).symm
@[simp]theorem as7(t:bU):Pv.isAgg 4 (enc t):=by rw[CN];exact⟨_,rfl,rfl⟩
inductive T where
 |nil
 |var (n:Int)
 |sym (s:List c0)
 |num (n:Int)
 |pair (a b:T)
 deriving DecidableEq,Inhabited
def T.tm:T->bU
 | .nil=>.mk 0 0 [] []
 | .var n=>.mk 1 n [] []
 | .sym s=>.mk 2 0 s []
 | .num n=>.mk 3 n [] []
 | .pair a b=>.mk 4 0 [] [a.tm,b.tm]
def T.e:T->ak
 | .nil=>.agg [.int .i64 0,.int .i64 0,.str [],.slice 4 .no []]
 | .var n=>.agg [.int .i64 1,.int .i64 n,.str [],.slice 4 .no []]
 | .sym s=>.agg [.int .i64 2,.int .i64 0,.str s,.slice 4 .no []]
 | .num n=>.agg [.int .i64 3,.int .i64 n,.str [],.slice 4 .no []]
 | .pair a b=>.agg [.int .i64 4,.int .i64 0,.str [],.slice 4 .no [a.e,b.e]]
theorem lj:∀t:T,enc t.tm=t.e
 | .nil| .var _| .sym _| .num _=>rfl
 | .pair a b=>by simp[T.tm,enc,rp,T.e,lj a,lj b]
def T.kind:T->Int
 | .nil=>0| .var _=>1| .sym _=>2| .num _=>3| .pair _ _=>4
def T.int:T->Int
 | .var n=>n| .num n=>n|_=>0
def T.name:T->List c0
 | .sym s=>s|_=>[]
def T.args:T->List T
 | .pair a b=>[a,b]|_=>[]
theorem T.e_eq(t:T):t.e= .agg [.int .i64 t.kind,.int .i64 t.int,.str t.name,.slice 4 .no (t.args.map T.e)]:=by cases t<;>rfl
@[simp]theorem aq9(t:T):ak.agg [.int .i64 t.kind,.int .i64 t.int,.str t.name,.slice 4 .no (t.args.map T.e)]=t.e:=(T.e_eq t).symm
@[simp]theorem arb:ak.agg [.int .i64 0,.int .i64 0,.str [],.slice 4 .no []]=T.nil.e:=rfl
@[simp]theorem arh(n:Int):ak.agg [.int .i64 1,.int .i64 n,.str [],.slice 4 .no []]=(T.var n).e:=rfl
@[simp]theorem arf(s:List c0):ak.agg [.int .i64 2,.int .i64 0,.str s,.slice 4 .no []]=(T.sym s).e:=rfl
@[simp]theorem arc(n:Int):ak.agg [.int .i64 3,.int .i64 n,.str [],.slice 4 .no []]=(T.num n).e:=rfl
@[simp]theorem ard(a b:T):ak.agg [.int .i64 4,.int .i64 0,.str [],.slice 4 .no [a.e,b.e]]=(T.pair a b).e:=rfl
@[simp]theorem asg(off:Nat)(gh:Bool)(sz:Nat)(t:T):rs off gh sz (.eptr t.e)=if gh then some (off+sz<=4,.eptr (.agg (([.int .i64 t.kind,.int .i64 t.int,.str t.name,.slice 4 .no (t.args.map T.e)].drop off).take sz)))else(([.int .i64 t.kind,.int .i64 t.int,.str t.name,.slice 4 .no (t.args.map T.e)]:List ak)[off]?).map fun p=>(eR p=true/\cells p=[p],.eptr p):=by rw[T.e_eq];rfl
@[simp]theorem aj9:(T.nil).kind=0:=rfl
@[simp]theorem ajw:(T.nil).int=0:=rfl
@[simp]theorem ak0:(T.nil).name=[]:=rfl
@[simp]theorem abP:(T.nil).args=[]:=rfl
@[simp]theorem akd(n:Int):(T.var n).kind=1:=rfl
@[simp]theorem ajA(n:Int):(T.var n).int=n:=rfl
@[simp]theorem ak4(n:Int):(T.var n).name=[]:=rfl
@[simp]theorem abT(n:Int):(T.var n).args=[]:=rfl
@[simp]theorem akc(s:List c0):(T.sym s).kind=2:=rfl
@[simp]theorem ajz(s:List c0):(T.sym s).int=0:=rfl
@[simp]theorem ak3(s:List c0):(T.sym s).name=s:=rfl
@[simp]theorem abS(s:List c0):(T.sym s).args=[]:=rfl
@[simp]theorem aka(n:Int):(T.num n).kind=3:=rfl
@[simp]theorem ajx(n:Int):(T.num n).int=n:=rfl
@[simp]theorem ak1(n:Int):(T.num n).name=[]:=rfl
@[simp]theorem abQ(n:Int):(T.num n).args=[]:=rfl
@[simp]theorem akb(a b:T):(T.pair a b).kind=4:=rfl
@[simp]theorem ajy(a b:T):(T.pair a b).int=0:=rfl
@[simp]theorem ak2(a b:T):(T.pair a b).name=[]:=rfl
@[simp]theorem abR(a b:T):(T.pair a b).args=[a,b]:=rfl
@[simp]theorem atu(S:aM->Prop)(t:T):aJ S t.e=True:=by rw[<-lj];simp
@[simp]theorem au5(t:T):eb t.e=t.e:=by rw[<-lj];simp
theorem WC(S:aM->Prop):∀l:List T,aN S (l.map T.e)
 |[]=>by simp[aN]
 |x::xs=>by simp[aN,WC S xs]
@[simp]theorem WB(S:aM->Prop)(l:List T):aN S (l.map T.e)=True:=eq_true (WC S l)
@[simp]theorem Ph:∀l:List T,c7 (l.map T.e)=l.map T.e
 |[]=>rfl
 |x::xs=>by simp[c7,Ph xs]
@[simp]theorem auK(t:T):eR t.e=true:=by rw[T.e_eq];rfl
@[simp]theorem arO(t:T):cells t.e=[.int .i64 t.kind,.int .i64 t.int,.str t.name,.slice 4 .no (t.args.map T.e)]:=by rw[T.e_eq];rfl
@[simp]theorem as6(t:T):Pv.isAgg 4 t.e:=by rw[T.e_eq];exact⟨_,rfl,rfl⟩
def T.size:T->Nat
 | .pair a b=>1+a.size+b.size
 |_=>1
theorem T.size_pos(t:T):1<=t.size:=by cases t<;>simp[T.size]<;>omega
def low(b:c0):Bool:=decide (97<=b.toNat/\b.toNat<=122)
def nm(b:c0):Bool:=low b||decide (48<=b.toNat/\b.toNat<=57)||b.toNat==45
def ix(s:List c0):Bool:=decide (1<=s.length/\s.length<=12)&&low (s.getD 0 0)&&(s.drop 1).all nm
def T.ok:T->Bool
 | .nil=>true
 | .var n=>decide (0<=n/\n<=100000)
 | .sym s=>ix s
 | .num n=>decide (-1000000000<=n/\n<=1000000000)
 | .pair a b=>a.ok&&b.ok
def lQ(k n:Int)(s:List c0):Bool:=if k=0 then n==0&&s==[]else if k=1 then decide (0<=n/\n<=100000)&&s==[]else if k=2 then n==0&&ix s else if k=3 then decide (-1000000000<=n/\n<=1000000000)&&s==[]else false
def fB:bU->Int->Int
 | .mk k n s [a,b],room=>if room<1\/k≠4\/n≠0\/s≠[]then-1 else if fB a (room-1)<0 then-1 else if fB b (room-1-fB a (room-1))<0 then-1 else 1+fB a (room-1)+fB b (room-1-fB a (room-1))
 | .mk k n s args,room=>if room<1\/k=4\/args≠[]\/lQ k n s=false then-1 else 1
theorem Nz(k n:Int)(s:List c0)(args:List bU)(room:Int):fB (.mk k n s args) room=if room<1 then-1 else if k≠4 then(if args≠[]then-1 else if lQ k n s then 1 else-1)else if n≠0\/s≠[]then-1 else match args with
  |[a,b]=>if fB a (room-1)<0 then-1 else if fB b (room-1-fB a (room-1))<0 then-1 else 1+fB a (room-1)+fB b (room-1-fB a (room-1))
  |_=> -1:=by
 match args with
 |[]=>simp only[fB];by_cases J:room<1<;>by_cases U:k=4<;>by_cases ao:lQ k n s=true<;>simp[J,U,ao]
 |[a]=>simp[fB]
 |[a,b]=>simp only[fB];by_cases J:room<1<;>by_cases U:k=4<;>simp[J,U]
 |a::b::c::r=>simp[fB]
theorem Ia:∀(t:T) (room:Int),fB t.tm room=if t.ok=true/\(t.size:Int)<=room then(t.size:Int)else-1
 | .nil,room=>by simp[T.tm,fB,T.ok,T.size,lQ];split<;>rename_i h<;>simp_all<;>omega
 | .var n,room=>by simp[T.tm,fB,T.ok,T.size,lQ];split<;>split<;>simp_all<;>omega
 | .sym s,room=>by simp[T.tm,fB,T.ok,T.size,lQ];by_cases J:room<1<;>by_cases U:ix s=true<;>simp[J,U]<;>omega
 | .num n,room=>by simp[T.tm,fB,T.ok,T.size,lQ];split<;>split<;>simp_all<;>omega
 | .pair a b,room=>by
  have bm:=a.size_pos;have ab:=b.size_pos;simp only[T.tm,fB,Ia a,Ia b,T.ok,T.size,cr];by_cases J:room<1
  ·simp[J];omega
  ·by_cases U:a.ok=true/\(a.size:Int)<=room-1
   ·rw[if_pos U];by_cases ao:b.ok=true/\(b.size:Int)<=room-1-a.size
    ·rw[if_pos ao];simp[J,U.1,ao.1];split<;>omega
    ·rw[if_neg ao];simp[J,U.1];intro l4;have:=ao;simp[l4]at this;omega
   ·rw[if_neg U];simp[J];intro lL;have:=U;simp[lL]at this;omega
theorem El:∀(t:bU) (room:Int),fB t room= -1\/1<=fB t room
 | .mk k n s [a,b],room=>by
  simp only[fB];split
  ·exact .inl rfl
  ·split
   ·exact .inl rfl
   ·split
    ·exact .inl rfl
    ·right;omega
 | .mk k n s [],room=>by simp only[fB];split<;>simp
 | .mk k n s [a],room=>by simp[fB]
 | .mk k n s (a::b::c::r),room=>by simp[fB]
theorem NB:∀(t:bU) (room:Int),0<fB t room->∃x:T,x.tm=t
 | .mk k n s [a,b],room,h=>by
  simp only[fB]at h;split at h
  ·omega
  ·rename_i J;simp only[not_or,Int.not_lt,ne_eq,ave]at J;obtain⟨J,rfl,rfl,rfl⟩:=J;split at h
   ·omega
   ·split at h
    ·omega
    ·obtain⟨x,rfl⟩:=NB a (room-1) (by rcases El a (room-1)with h|h<;>omega);obtain⟨y,rfl⟩:=NB b (room-1-fB x.tm (room-1)) (by rcases El b (room-1-fB x.tm (room-1))with h|h<;>omega);exact⟨.pair x y,rfl⟩
 | .mk k n s [],room,h=>by
  simp only[fB]at h;split at h
  ·omega
  ·rename_i J;simp only[not_or,ne_eq,not_true_eq_false,not_false_eq_true,true_and,Bool.not_eq_false]at J;obtain⟨_,_,J⟩:=J;unfold lQ at J;split at J
   ·rename_i e;subst e;simp at J;obtain⟨rfl,rfl⟩:=J;exact⟨.nil,rfl⟩
   ·split at J
    ·rename_i e;subst e;simp at J;obtain⟨_,rfl⟩:=J;exact⟨.var n,rfl⟩
    ·split at J
     ·rename_i e;subst e;simp at J;obtain⟨rfl,_⟩:=J;exact⟨.sym s,rfl⟩
     ·split at J
      ·rename_i e;subst e;simp at J;obtain⟨_,rfl⟩:=J;exact⟨.num n,rfl⟩
      ·cases J
 | .mk k n s [a],room,h=>by simp[fB]at h
 | .mk k n s (a::b::c::r),room,h=>by simp[fB]at h
theorem NA:∀(t:bU) (room:Int),fB t room<=room\/fB t room= -1
 | .mk k n s [a,b],room=>by
  simp only[fB];split
  ·exact .inr rfl
  ·split
   ·exact .inr rfl
   ·split
    ·exact .inr rfl
    ·rcases NA b (room-1-fB a (room-1))with h|h<;>omega
 | .mk k n s [],room=>by simp only[fB];split<;>simp;rename_i h;omega
 | .mk k n s [a],room=>by simp[fB]
 | .mk k n s (a::b::c::r),room=>by simp[fB]
mutual
def bU.sz:bU->Nat
 | .mk _ _ _ a=>1+bU.szL a
def bU.szL:List bU->Nat
 |[]=>0
 |x::xs=>x.sz+bU.szL xs
end
theorem ZV:∀{l:List bU} {x:bU},x∈l->x.sz<=bU.szL l
 |y::l,x,h=>by
  rcases e7.1 h with rfl|h
  ·simp[bU.szL]
  ·have:=ZV h;simp[bU.szL];omega
theorem apm{t x:bU}(h:x∈t.args):x.sz<t.sz:=by cases t;simp[bU.args]at h;have:=ZV h;simp[bU.sz];omega
def T.fit(t:T):Bool:=t.ok&&decide (t.size<=5000)
def bU.fits(t:bU):Bool:=decide (0<fB t 5000)
theorem bU.fits_T(t:T):t.tm.fits=t.fit:=by
 unfold bU.fits T.fit;rw[Ia];have:=t.size_pos;by_cases J:t.ok=true<;>by_cases U:t.size<=5000
 ·rw[if_pos ⟨J,Ω⟩];simp[J,U];omega
 ·rw[if_neg Ω];simp[U]
 ·rw[if_neg (by simp[J])];simp[J]
 ·rw[if_neg (by simp[J])];simp[J]
theorem bU.fits_ex{t:bU}(h:t.fits=true):∃x:T,x.tm=t/\x.fit=true:=by obtain⟨x,rfl⟩:=NB t 5000 (by simpa[bU.fits]using h);exact⟨x,rfl,by rw[<-bU.fits_T];exact h⟩
structure ai where
 v:Int
 t:T
 deriving DecidableEq,Inhabited
def ai.e(b:ai):ak:= .agg [.int .i64 b.v,.int .i64 b.t.kind,.int .i64 b.t.int,.str b.t.name,.slice 4 .no (b.t.args.map T.e)]
@[simp]theorem ai.eta(b:ai):ai.mk b.v b.t=b:=rfl
@[simp]theorem Qn(v:Int)(t:T):ak.agg [.int .i64 v,.int .i64 t.kind,.int .i64 t.int,.str t.name,.slice 4 .no (t.args.map T.e)]=(ai.mk v t).e:=rfl
@[simp]theorem aq4(v:Int):ak.agg [.int .i64 v,.int .i64 0,.int .i64 0,.str [],.slice 4 .no []]=(ai.mk v .nil).e:=rfl
@[simp]theorem aq8(v n:Int):ak.agg [.int .i64 v,.int .i64 1,.int .i64 n,.str [],.slice 4 .no []]=(ai.mk v (.var n)).e:=rfl
@[simp]theorem aq7(v:Int)(s:List c0):ak.agg [.int .i64 v,.int .i64 2,.int .i64 0,.str s,.slice 4 .no []]=(ai.mk v (.sym s)).e:=rfl
@[simp]theorem aq5(v n:Int):ak.agg [.int .i64 v,.int .i64 3,.int .i64 n,.str [],.slice 4 .no []]=(ai.mk v (.num n)).e:=rfl
@[simp]theorem aq6(v:Int)(a b:T):ak.agg [.int .i64 v,.int .i64 4,.int .i64 0,.str [],.slice 4 .no [a.e,b.e]]=(ai.mk v (.pair a b)).e:=rfl
@[simp]theorem atq(S:aM->Prop)(b:ai):aJ S b.e=True:=by simp[ai.e,-Qn]
@[simp]theorem au0(b:ai):eb b.e=b.e:=by simp[ai.e,-Qn]
theorem Wz(S:aM->Prop):∀l:List ai,aN S (l.map ai.e)
 |[]=>by simp[aN]
 |x::xs=>by simp[aN,Wz S xs]
@[simp]theorem atj(S:aM->Prop)(l:List ai):aN S (l.map ai.e)=True:=eq_true (Wz S l)
@[simp]theorem ZS:∀l:List ai,c7 (l.map ai.e)=l.map ai.e
 |[]=>rfl
 |x::xs=>by simp[c7,ZS xs]
@[simp]theorem auD(b:ai):eR b.e=true:=rfl
@[simp]theorem arJ(b:ai):cells b.e=[.int .i64 b.v,.int .i64 b.t.kind,.int .i64 b.t.int,.str b.t.name,.slice 4 .no (b.t.args.map T.e)]:=rfl
@[simp]theorem as4(b:ai):Pv.isAgg 5 b.e:=⟨_,rfl,rfl⟩
@[simp]theorem aso(off:Nat)(gh:Bool)(sz:Nat)(b:ai):vd off gh sz b.e=if gh then some (off+sz<=5,.agg (([.int .i64 b.v,.int .i64 b.t.kind,.int .i64 b.t.int,.str b.t.name,.slice 4 .no (b.t.args.map T.e)].drop off).take sz))else(([.int .i64 b.v,.int .i64 b.t.kind,.int .i64 b.t.int,.str b.t.name,.slice 4 .no (b.t.args.map T.e)]:List ak)[off]?).map fun p=>(True,p):=rfl
@[simp]theorem ase(off:Nat)(gh:Bool)(sz:Nat)(b:ai):rs off gh sz (.eptr b.e)=if gh then some (off+sz<=5,.eptr (.agg (([.int .i64 b.v,.int .i64 b.t.kind,.int .i64 b.t.int,.str b.t.name,.slice 4 .no (b.t.args.map T.e)].drop off).take sz)))else(([.int .i64 b.v,.int .i64 b.t.kind,.int .i64 b.t.int,.str b.t.name,.slice 4 .no (b.t.args.map T.e)]:List ak)[off]?).map fun p=>(eR p=true/\cells p=[p],.eptr p):=rfl
def T.occ(v:Int):T->Bool
 | .var n=>n==v
 | .pair a b=>a.occ v||b.occ v
 |_=>false
def eG(a b:Int):Int:=if a<b then-1 else if b<a then 1 else 0
def k2(a b:List c0):Int:=if a=b then 0 else if hL a b then-1 else 1
def du:T->T->Int
 | .pair a b,.pair c d=>if du a c=0 then du b d else du a c
 |x,y=>if x.kind≠y.kind then eG x.kind y.kind else if x.int≠y.int then eG x.int y.int else k2 x.name y.name
structure dL where
 v:Int
 t:bU
def dL.e(b:dL):ak:= .agg [.int .i64 b.v,.int .i64 b.t.kind,.int .i64 b.t.num,.str b.t.name,.slice 4 .no (b.t.args.map enc)]
def ai.b(b:ai):dL:=⟨b.v,b.t.tm⟩
theorem ai.b_e(b:ai):b.b.e=b.e:=by obtain⟨v,t⟩:=b;cases t<;>simp only[ai.b,dL.e,ai.e,T.tm,bU.kind,bU.num,bU.name,bU.args,lj,aj9,akd,akc,aka,akb,ajw,ajA,ajz,ajx,ajy,ak0,ak4,ak3,ak1,ak2,abP,abT,abS,abQ,abR,ht,oo]
@[simp]theorem dL.eta(b:dL):dL.mk b.v b.t=b:=rfl
@[simp]theorem Qo(v:Int)(t:bU):ak.agg [.int .i64 v,.int .i64 t.kind,.int .i64 t.num,.str t.name,.slice 4 .no (t.args.map enc)]=(dL.mk v t).e:=rfl
@[simp]theorem atr(S:aM->Prop)(b:dL):aJ S b.e=True:=by simp[dL.e,-Qo]
@[simp]theorem au1(b:dL):eb b.e=b.e:=by simp[dL.e,-Qo]
theorem WA(S:aM->Prop):∀l:List dL,aN S (l.map dL.e)
 |[]=>by simp[aN]
 |x::xs=>by simp[aN,WA S xs]
@[simp]theorem atk(S:aM->Prop)(l:List dL):aN S (l.map dL.e)=True:=eq_true (WA S l)
@[simp]theorem aph:∀l:List dL,c7 (l.map dL.e)=l.map dL.e
 |[]=>rfl
 |x::xs=>by simp[c7,aph xs]
@[simp]theorem auF(b:dL):eR b.e=true:=rfl
@[simp]theorem arL(b:dL):cells b.e=[.int .i64 b.v,.int .i64 b.t.kind,.int .i64 b.t.num,.str b.t.name,.slice 4 .no (b.t.args.map enc)]:=rfl
@[simp]theorem as5(b:dL):Pv.isAgg 5 b.e:=⟨_,rfl,rfl⟩
@[simp]theorem asp(off:Nat)(gh:Bool)(sz:Nat)(b:dL):vd off gh sz b.e=if gh then some (off+sz<=5,.agg (([.int .i64 b.v,.int .i64 b.t.kind,.int .i64 b.t.num,.str b.t.name,.slice 4 .no (b.t.args.map enc)].drop off).take sz))else(([.int .i64 b.v,.int .i64 b.t.kind,.int .i64 b.t.num,.str b.t.name,.slice 4 .no (b.t.args.map enc)]:List ak)[off]?).map fun p=>(True,p):=rfl
@[simp]theorem asf(off:Nat)(gh:Bool)(sz:Nat)(b:dL):rs off gh sz (.eptr b.e)=if gh then some (off+sz<=5,.eptr (.agg (([.int .i64 b.v,.int .i64 b.t.kind,.int .i64 b.t.num,.str b.t.name,.slice 4 .no (b.t.args.map enc)].drop off).take sz)))else(([.int .i64 b.v,.int .i64 b.t.kind,.int .i64 b.t.num,.str b.t.name,.slice 4 .no (b.t.args.map enc)]:List ak)[off]?).map fun p=>(eR p=true/\cells p=[p],.eptr p):=rfl
def Bv(l:List dL)(i:Nat):Prop:= ∀b,l[i]? =some b->(0<=b.v/\b.v<=100000)/\(∀c,0<i->l[i-1]? =some c->c.v<b.v)/\b.t.fits=true
def uX(l:List dL):Prop:=l.length<=400/\∀i,i<l.length->Bv l i
theorem qY:∀a b:T,du a b=0↔a=b
 | .pair a b,.pair c d=>by
  simp only[du,T.pair.injEq];split
  ·rename_i h;rw[qY b d,<-qY a c];simp[h]
  ·rename_i h;simp[h,<-qY a c]
 | .nil,y=>by cases y<;>simp[du,eG,k2]
 | .var n,y=>by cases y<;>simp[du,eG,k2]<;>omega
 | .sym s,y=>by cases y<;>simp[du,eG,k2];rename_i ah;by_cases h:s=ah<;>simp[h];by_cases U:hL s ah=true<;>simp[U]
 | .num n,y=>by cases y<;>simp[du,eG,k2]<;>omega
 | .pair a b,.nil| .pair a b,.var _| .pair a b,.sym _| .pair a b,.num _=>by simp[du,eG]
def T.sub(f:Int->Option T):T->T
 | .var n=>match f n with|some x=>x|none=>.var n
 | .pair a b=>.pair (a.sub f) (b.sub f)
 |t=>t
def lS(f:Int->Int):T->Int
 | .var n=>if 5001<f n then 5001 else f n
 | .pair a b=>if 5000<lS f a then lS f a else if 5001<1+lS f a+lS f b then 5001 else 1+lS f a+lS f b
 |_=>1
theorem Jh(f:Int->Int)(aQ:∀v,-1<=f v):∀t,-1<=lS f t/\lS f t<=5001
 | .var n=>by have:=aQ n;simp only[lS];split<;>omega
 | .pair a b=>by have:=Jh f aQ a;have:=Jh f aQ b;simp only[lS];split<;>(try split)<;>omega
 | .nil| .sym _| .num _=>by simp[lS]
def df(l:List ai)(v:Int):Option T:=(l.find? fun b=>b.v==v).map (·.t)
end
end Go.Pv
namespace Go.Proofs.YtohaalphocaebaaGreat
section
open Go Go.Pv
structure dA where
 d:List Int
 i:Nat
 h:Int
def hP(d:List Int):List ak:=d.map (ak.int .u8)
def dA.e(c:dA):List ak:=[.slice 1 .no (hP c.d),.int .i64 c.i,.int .i64 c.h]
def b8(c:dA):cR:=⟨[(.obj 401,c.e)],[]⟩
@[simp]theorem ate(S:aM->Prop)(d:List Int):aN S (hP d)=True:=by
 apply eq_true;induction d with
 |nil=>simp[-bX,-bJ,hP,aN]
 |cons x r bR=>simp only[hP,ht,aN,aJ]at bR⊢;exact⟨trivial,bR⟩
@[simp]theorem au2(d:List Int):c7 (hP d)=hP d:=by
 induction d with
 |nil=>rfl
 |cons x r bR=>simp only[hP,ht,c7,eb]at bR⊢;rw[bR]
@[simp]theorem arF(d:List Int):(hP d).length=d.length:=by simp[-bX,-bJ,hP]
theorem J9{d:List Int}{i:Nat}{x:Int}(h:d[i]? =some x):(hP d)[i]? =some (.int .u8 x):=by simp[-bX,-bJ,hP,h]
theorem fR(c:dA):dM (b8 c):=by unfold b8;exact dM.of ⟨by intro m;simp[-bX,-bJ,Pv.look],by intro m;simp[-bX,-bJ,Pv.look]⟩ (by simp[-bX,-bJ,dA.e,aN,aJ]) (by simp[-bX,-bJ])
theorem hM(c cq:dA):Same (b8 c) (b8 cq):=by refine⟨fun k=>?_,fun k=>rfl⟩;simp only[b8,Pv.look];split<;>rfl
def rh(d:List Int):Prop:= ∀x∈d,0<=x/\x<256
def Bs(h:Int):Int:=nD.wrap (nD.wrap (h*6364136223846793005)+1442695040888963407)
def x2(k:IntKind)(a b:Int):Int:=k.wrap (mr k.bits a&&& mr k.bits b).toNat
def aa4(k:IntKind)(a b:Int):Int:=k.wrap (mr k.bits a ^^^ mr k.bits b).toNat
def O5(k:IntKind)(a b:Int):Int:=a.fdiv (2 ^ (min b.toNat k.bits))
section
variable (a b:Int)
@[simp]theorem arl:bJ .add false (.int .i64 a) (.int .i64 b)=some (pE (a+b),.int .i64 (a+b)):=by unfold bJ bX;simp[-bX,-bJ]
@[simp]theorem arn:bJ .add true (.int .i64 a) (.int .i64 b)=some (True,.int .i64 (nD.wrap (a+b))):=rfl
@[simp]theorem arB:bJ .sub false (.int .i64 a) (.int .i64 b)=some (pE (a-b),.int .i64 (a-b)):=by unfold bJ bX;simp[-bX,-bJ]
@[simp]theorem arv:bJ .mul false (.int .i64 a) (.int .i64 b)=some (pE (a*b),.int .i64 (a*b)):=by unfold bJ bX;simp[-bX,-bJ]
@[simp]theorem arw:bJ .mul true (.int .i64 a) (.int .i64 b)=some (True,.int .i64 (nD.wrap (a*b))):=rfl
@[simp]theorem ary:bJ .quo false (.int .i64 a) (.int .i64 b)=some (b≠0,.int .i64 (nD.wrap (a.tdiv b))):=rfl
@[simp]theorem arz:bJ .rem false (.int .i64 a) (.int .i64 b)=some (b≠0,.int .i64 (a.tmod b)):=rfl
@[simp]theorem arp:bJ .eql false (.int .i64 a) (.int .i64 b)=some (True,.bool (a==b)):=rfl
@[simp]theorem arx:bJ .neq false (.int .i64 a) (.int .i64 b)=some (True,.bool (a !=b)):=rfl
@[simp]theorem aru:bJ .lss false (.int .i64 a) (.int .i64 b)=some (True,.bool (decide (a<b))):=rfl
@[simp]theorem art:bJ .leq false (.int .i64 a) (.int .i64 b)=some (True,.bool (decide (a<=b))):=rfl
@[simp]theorem ars:bJ .gtr false (.int .i64 a) (.int .i64 b)=some (True,.bool (decide (b<a))):=rfl
@[simp]theorem arq:bJ .geq false (.int .i64 a) (.int .i64 b)=some (True,.bool (decide (b<=a))):=rfl
@[simp]theorem aro:bJ .and false (.int .i64 a) (.int .i64 b)=some (True,.int .i64 (x2 .i64 a b)):=rfl
@[simp]theorem arC:bJ .xor false (.int .i64 a) (.int .i64 b)=some (True,.int .i64 (aa4 .i64 a b)):=rfl
@[simp]theorem arA(k:IntKind):bJ .shr false (.int .i64 a) (.int k b)=some (0<=b,.int .i64 (O5 .i64 a b)):=rfl
end
theorem JY(x m:Int)(bE:0<=m)(J:m<9223372036854775807):0<=x2 .i64 x m/\x2 .i64 x m<=m:=by
 have hm:(mr 64 m).toNat=m.toNat:=by rw[BitVec.toNat_ofInt];omega
 have h:(mr 64 x&&& mr 64 m).toNat<=m.toNat:=by rw[BitVec.toNat_and,hm];exact Nat.and_le_right
 unfold x2;rw[show nD.bits=64 from rfl,mT _ Ω];omega
def y0(h:Int):Int:=x2 .i64 (aa4 .i64 (O5 .i64 h 33) (O5 .i64 h 45)) 255
theorem Xn(h:Int):0<=y0 h/\y0 h<=255:=JY _ _ Ω Ω
def dA.byte(c:dA):Int:=match c.d[c.i]? with|some x=>x2 .i64 (y0 (Bs c.h)+x) 255|none=>y0 (Bs c.h)
def dA.next(c:dA):dA:=⟨c.d,if c.i<c.d.length then c.i+1 else c.i,Bs c.h⟩
theorem dA.byte_le(c:dA):0<=c.byte/\c.byte<=255:=by
 unfold dA.byte;split
 ·exact JY _ _ Ω Ω
 ·exact Xn _
structure dA.ok (c:dA):Prop where
 d:rh c.d
 l:c.d.length<=10000000
 i:c.i<=c.d.length
theorem dA.ok.next{c:dA}(h:c.ok):c.next.ok:=⟨h.d,h.l,by have:=h.i;simp only[dA.next];split<;>omega⟩
theorem GG(c:dA)(ar:c.ok):bI ax 53 [.ptr (.obj 401) 0] (b8 c) fun r ah=>r= .int .i64 c.byte/\ah=b8 c.next:=by
 have ag:=fR c;have fe:=fR c.next;have eL:=hM c c.next;obtain⟨d,i,h⟩:=c;obtain⟨aF,av,hi⟩:=ar;simp only at aF av hi;have oG:=Xn (Bs h);simp only[y0]at oG;by_cases bz:i<d.length
 ·obtain⟨x,ad⟩:∃x,d[i]? =some x:=⟨_,bY bz⟩;have jv:∀h,(hP d)[i]'h= .int .u8 x:=fun h=>by have:=J9 ad;rw[bY h]at this;simpa using this
  have lO:=aF x (dP ad);have hw:nD.wrap x=x:=mT _ Ω;simp only[b8,dA.e,dA.next,bz,if_true]at ag fe eL⊢;refine bI.mk mixed qy TS XS (by simp[-bX,-bJ]) ag.obj fun aR cI=>?_;unfold Kw;simp[-bX,-bJ,bz,jv,hw,<-Bs.eq_1];(with_reducible repeat' first|((first|apply bL|apply bN|apply bM)<;>intro h<;>try simp[-bX,-bJ]at h)|refine aj ?_|simp[-bX,-bJ]);refine cP.at _ (.inl rfl) fe eL aL aL ?_;simp[-bX,-bJ,cW,Ot,aU,aW,aT];simp[-bX,-bJ,dA.byte,ad,y0]
 ·have ad:d[i]? =none:=by simp[-bX,-bJ];omega
  simp only[b8,dA.e,dA.next,bz,if_false]at ag fe eL⊢;refine bI.mk mixed qy TS XS (by simp[-bX,-bJ]) ag.obj fun aR cI=>?_;unfold Kw;simp[-bX,-bJ,bz,<-Bs.eq_1];(with_reducible repeat' first|((first|apply bL|apply bN|apply bM)<;>intro h<;>try simp[-bX,-bJ]at h)|refine aj ?_|simp[-bX,-bJ]);refine cP.at _ (.inl rfl) fe eL aL aL ?_;simp[-bX,-bJ,cW,Ot,aU,aW,aT];simp[-bX,-bJ,dA.byte,ad,y0]
end
section
open Go Go.Pv
def ajF(s:List c0)(k:Nat)(st:br):Prop:=∃i:Nat,1<=i/\i<=s.length/\k=s.length-i/\((s.drop 1).all nm=(s.drop i).all nm)/\st=⟨[(0,.str s),(3,.int .i64 i)],[],[],0,[]⟩
theorem uK(s:List c0):bQ ax 128 [.str s] (.bool (ix s)):=by
 refine bQ.mk mixed fN aeh ali Ψ (by simp[aJ]) fun ab=>?_;unfold QX;simp;(with_reducible repeat' first|((first|refine bL (fun h=>?_) fun h=>?_|refine bN (fun h=>?_) fun h=>?_|refine bM (fun h=>?_) fun h=>?_)<;>try simp at h)|refine aj ?_|simp);case refine_1.refine_1.refine_1.refine_2=>
  have aiy:ix s=(s.drop 1).all nm:=by simp[ix,low];omega
  rw[aiy];refine nJ (ajF s) (s.length-1) _ ⟨Ψ,by simp[gL],by simp[oa],Ψ⟩ ⟨1,Ω,Ω,rfl,rfl,rfl⟩ ?_;rintro k st ⟨i,ln,hV,ae,l3,rfl⟩ ju cI;rw[l3];simp;refine bL (fun bz=>?_) (fun wK=>?_)
  ·simp at bz;have aF:s.drop i=s[i]?.getD 0::s.drop (i+1):=by rw[k8 bz];simp[bz]
   simp;(with_reducible repeat' first|((first|refine bL (fun h=>?_) fun h=>?_|refine bN (fun h=>?_) fun h=>?_|refine bM (fun h=>?_) fun h=>?_)<;>try simp at h)|refine aj ?_|simp);all_goals first
    |(simp[bk,It,aU,aW,aT,aF,nm,low];omega)
    |(simp only[Fz];refine⟨s.length-(i+1),_,Ω,⟨Ψ,by simp[gL],by simp[oa],Ψ⟩,i+1,Ω,Ω,rfl,?_,rfl⟩;rw[l3,aF];simp[nm,low];omega)
  ·simp at wK;have:s.drop i=[]:=by simp;omega
   simp[bk,It,aU,aW,aT,this]
 all_goals simp[bk,It,aU,aW,aT,ix,low]
 all_goals omega
theorem aaK(m:Nat):∀(t:bU),t.sz<=m->∀(room:Int),0<=room/\room<=10000->bQ ax 194 [enc t,.int .i64 room] (.int .i64 (fB t room)):=by
 induction m with
 |zero=>intro t aH;cases t;simp[bU.sz]at aH
 |succ m bR=>
 rintro⟨k,n,s,args⟩ aH room sK;refine bj fN aeO alR fun aR=>?_;unfold Rv;simp[bU.kind,bU.num,bU.name,bU.args];(with_reducible repeat' first|((first|refine bL (fun h=>?_) fun h=>?_|refine bN (fun h=>?_) fun h=>?_|refine bM (fun h=>?_) fun h=>?_)<;>try simp at h)|refine aj ?_|simp);all_goals try refine cO.val Ψ (uK _) ?_
 all_goals try simp
 (with_reducible repeat' first|((first|refine bL (fun h=>?_) fun h=>?_|refine bN (fun h=>?_) fun h=>?_|refine bM (fun h=>?_) fun h=>?_)<;>try simp at h)|refine aj ?_|simp);all_goals try simp[bk,IA,aU,aW,aT]
 case succ.refine_2.refine_2.refine_1.refine_1.refine_2=>
  rename_i bE J U ao;match args,h with
  |[a,b],_=>
  simp[bU.sz,bU.szL]at aH;subst J U ao;simp;(with_reducible repeat' first|((first|refine bL (fun h=>?_) fun h=>?_|refine bN (fun h=>?_) fun h=>?_|refine bM (fun h=>?_) fun h=>?_)<;>try simp at h)|refine aj ?_|simp);refine cO.val Ψ (bR a Ω (room-1) Ω) ?_;simp;have bm:=NA a (room-1);have nO:=El a (room-1);(with_reducible repeat' first|((first|refine bL (fun h=>?_) fun h=>?_|refine bN (fun h=>?_) fun h=>?_|refine bM (fun h=>?_) fun h=>?_)<;>try simp at h)|refine aj ?_|simp)
  ·simp[bk,IA,aU,aW,aT];rw[Nz];simp;omega
  ·refine cO.val Ψ (bR b Ω (room-1-fB a (room-1)) Ω) ?_;simp;have ab:=NA b (room-1-fB a (room-1));have gk:=El b (room-1-fB a (room-1));(with_reducible repeat' first|((first|refine bL (fun h=>?_) fun h=>?_|refine bN (fun h=>?_) fun h=>?_|refine bM (fun h=>?_) fun h=>?_)<;>try simp at h)|refine aj ?_|simp);all_goals simp[bk,IA,aU,aW,aT]
   all_goals rw[Nz];simp;omega
 all_goals rw[Nz]
 all_goals simp_all[lQ]
 all_goals first|omega|(split<;>simp at h⊢)
theorem Fg(t:bU):bQ ax 117 [enc t] (.bool t.fits):=by refine bj fN aeq als fun aR=>?_;unfold Q6;simp;refine cO.val Ψ (aaK t.sz t (eu _) 5000 Ω) ?_;simp;simp[bk,Yl,aU,aW,aT];simp[bU.fits]
theorem ap1(t:T):bQ ax 117 [t.e] (.bool t.fit):=by have:=Fg t.tm;rwa[lj,bU.fits_T]at this
theorem Jx(a b:T):bQ ax 225 [a.e,b.e] (T.pair a b).e:=by refine bj fN aeR alU fun aR=>?_;unfold Ry;simp;(with_reducible repeat' first|((first|refine bL (fun h=>?_) fun h=>?_|refine bN (fun h=>?_) fun h=>?_|refine bM (fun h=>?_) fun h=>?_)<;>try simp at h)|refine aj ?_|simp);all_goals try simp[bk,YE,aU,aW,aT]
theorem Cf(a b:T):bQ ax 114 [a.e,b.e] (T.pair a b).e:=by refine bj fN afK amO fun aR=>?_;unfold Su;simp;(with_reducible repeat' first|((first|refine bL (fun h=>?_) fun h=>?_|refine bN (fun h=>?_) fun h=>?_|refine bM (fun h=>?_) fun h=>?_)<;>try simp at h)|refine aj ?_|simp);all_goals try simp[bk,Y0,aU,aW,aT]
theorem uL(t:T):bQ ax 200 [t.e] t.e:=by
 induction t with
 |pair a b dJ dK=>refine bj fN TK XK fun aR=>?_;unfold Kj;exact cp
 |_=>refine bj fN TK XK fun aR=>?_;unfold Kj;exact cp
theorem oY(a b:Int):bQ ax 232 [.int .i64 a,.int .i64 b] (.int .i64 (eG a b)):=by
 refine bj fN aeQ alT fun aR=>?_;unfold Rx;simp;((with_reducible repeat' first|refine aj ?_|simp|((first|apply bL|apply bN|apply bM)<;>intro h<;>try simp at h))<;>(try exact cm));all_goals simp[bk,YD,aU,aW,aT]
 all_goals simp[eG]
 all_goals omega
theorem zC(a:T):∀b:T,bQ ax 170 [a.e,b.e] (.int .i64 (du a b)):=by
 induction a with
 |pair bC a2 Hy Hz=>
  intro b;cases b with
  |pair cg cc=>
   refine bj fN K7 NQ fun aR=>?_;unfold F9;simp;((with_reducible repeat' first|refine aj ?_|refine aA (Hy _) ?_|refine aB (Hy _) ?_|refine aA (Hz _) ?_|refine aB (Hz _) ?_|refine aA (oY _ _) ?_|refine aB (oY _ _) ?_|simp|((first|apply bL|apply bN|apply bM)<;>intro h<;>try simp at h))<;>(try exact cm));all_goals simp[bk,IB,aU,aW,aT]
   all_goals simp_all[du]
  |_=>
   refine bj fN K7 NQ fun aR=>?_;unfold F9;simp;(with_reducible repeat' first|refine aj ?_|refine aA (oY _ _) ?_|refine aB (oY _ _) ?_|simp);all_goals simp[bk,IB,aU,aW,aT]
   all_goals simp_all[du]
 |_=>
  intro b;cases b<;>
  (refine bj fN K7 NQ fun aR=>?_;unfold F9
   simp
   (with_reducible repeat' first|((first|apply bL|apply bN|apply bM)<;>intro h<;>try simp at h)|refine aj ?_|refine aA (oY _ _) ?_|refine aB (oY _ _) ?_|simp)
   all_goals simp[bk,IB,aU,aW,aT]
   all_goals simp_all[du,k2])
theorem rY(a b:T):bQ ax 108 [a.e,b.e] (.bool (decide (a=b))):=by
 refine bj fN aeG alJ fun aR=>?_;unfold Rn;simp;(with_reducible repeat' first|refine aj ?_|refine aA (zC _ _) ?_|refine aB (zC _ _) ?_|simp);all_goals simp[bk,Yw,aU,aW,aT]
 have:=qY a b;by_cases h:du a b=0<;>simp_all
open Classical in
def ajL(l:List dL)(k:Nat)(st:br):Prop:=∃i:Nat,i<=l.length/\k=l.length-i/\(∀j,j<i->Bv l j)/\st=⟨[(0,.slice 5 .no (l.map dL.e)),(8,.slice 5 .no (l.map dL.e)),(9,.int .i64 l.length),(10,.int .i64 i)],[],[],0,[]⟩
open Classical in
theorem PC(l:List dL):bQ ax 100 [.slice 5 .no (l.map dL.e)] (.bool (decide (uX l))):=by
 refine bj fN aes alv fun aR=>?_;unfold Q8;simp;(with_reducible repeat' first|((first|apply bL|apply bN|apply bM)<;>intro h<;>try simp at h)|refine aj ?_|simp)
 ·simp[bk,Iu,aU,aW,aT];intro cd;have:=cd.1;omega
 ·refine nJ (ajL l) l.length _ ⟨Ψ,by simp[gL],by simp[oa],Ψ⟩ ⟨0,Ω,Ω,Ψ,rfl⟩ ?_;rintro k st ⟨i,hi,ae,l3,rfl⟩ ju cI;simp;refine bL (fun bz=>?_) (fun wK=>?_)
  ·simp at bz;obtain⟨b,ab⟩:∃b,l[i]? =some b:=⟨_,bY bz⟩;obtain⟨c,ar⟩:∃c,l[i-1]? =some c:=⟨_,bY Ω⟩;clear ju cI;simp[ab,ar];((with_reducible repeat' first|refine aj ?_|refine aA (Fg _) ?_|refine aB (Fg _) ?_|simp[ar]|((first|apply bL|apply bN|apply bM)<;>intro h<;>try simp at h))<;>(try exact cm));all_goals first
    |(simp[bk,Iu,aU,aW,aT];intro cd;have J:=cd.2 i bz b ab;have U:=J.2.1 c;have ao:=J.2.2;first|omega|(have:=U Ω ar;omega)|(rw[ao]at h;cases h)|simp_all)
    |(simp only[Fz];refine⟨l.length-(i+1),_,Ω,⟨Ψ,by simp[gL],by simp[oa],Ψ⟩,i+1,Ω,rfl,fun j af=>?_,rfl⟩
      by_cases e:j=i
      ·subst e;intro b1 gk;rw[ab]at gk;cases gk;refine⟨Ω,fun cq bE hy=>?_,by assumption⟩;rw[ar]at hy;cases hy;omega
      ·exact l3 j Ω)
  ·simp at wK;simp[bk,Iu,aU,aW,aT];exact⟨Ω,fun j af=>l3 j Ω⟩
def dA.below(c:dA)(n:Int):Int:=if n<=0 then 0 else c.byte.tmod n
def dA.belowC(c:dA)(n:Int):dA:=if n<=0 then c else c.next
theorem dA.ok.below{c:dA}(h:c.ok)(n:Int):(c.belowC n).ok:=by unfold dA.belowC;split;exact h;exact h.next
theorem dA.below_le(c:dA)(n:Int)(au:0<n):0<=c.below n/\c.below n<n:=by have:=c.byte_le;unfold dA.below;rw[if_neg Ω];exact⟨Int.tmod_nonneg _ this.1,Int.tmod_lt_of_pos _ au⟩
theorem vh(c:dA)(ar:c.ok)(n:Int):bI ax 110 [.ptr (.obj 401) 0,.int .i64 n] (b8 c) fun r ah=>r= .int .i64 (c.below n)/\ah=b8 (c.belowC n):=by
 have ag:=fR c;have eL:=hM c;refine bI.mk mixed qy afz amD (by simp[-bX,-bJ]) ag.obj fun aR cI=>?_;unfold Si;unfold b8;simp[-bX,-bJ];(with_reducible repeat' first|((first|apply bL|apply bN|apply bM)<;>intro h<;>try simp[-bX,-bJ]at h)|refine aj ?_|simp[-bX,-bJ])
 ·(refine cP.at (b8 (c)) (.inl rfl) (fR _) (hM _ _) (by unfold b8;exact aL) (by unfold b8;exact aL) ?_;simp[-bX,-bJ,cW,Oq,aU,aW,aT,b8]);simp[-bX,-bJ,dA.below,dA.belowC,h]
 ·(refine cO.ob (GG c ar) (fR _) (by unfold b8;exact aL) (by unfold b8;exact aL) (by simp[-bX,-bJ,inObs,b8,Pv.look]) ?_;rintro r ah ⟨rfl,rfl⟩;refine⟨hM _ _,?_⟩;unfold b8;simp[-bX,-bJ,cb]);((with_reducible repeat' first|refine aj ?_|simp[-bX,-bJ]|((first|apply bL|apply bN|apply bM)<;>intro h<;>try simp[-bX,-bJ]at h))<;>(try exact cm));(refine cP.at (b8 (c.next)) (.inl rfl) (fR _) (hM _ _) (by unfold b8;exact aL) (by unfold b8;exact aL) ?_;simp[-bX,-bJ,cW,Oq,aU,aW,aT,b8]);have:¬n<=0:=Ω
  simp[-bX,-bJ,dA.below,dA.belowC,this]
theorem aaA(n:Int):bQ ax 91 [.int .i64 n] (T.var n).e:=by refine bj fN TT XT fun aR=>?_;unfold Kx;simp[-bX,-bJ];simp[-bX,-bJ,bk,Y4,aU,aW,aT]
theorem aay(n:Int):bQ ax 192 [.int .i64 n] (T.num n).e:=by refine bj qy afI amM fun aR=>?_;unfold Ss;simp[-bX,-bJ];simp[-bX,-bJ,bk,YZ,aU,aW,aT]
theorem aaz(s:List c0):bQ ax 184 [.str s] (T.sym s).e:=by refine bj qy afN amR fun aR=>?_;unfold Sx;simp[-bX,-bJ];simp[-bX,-bJ,bk,Y3,aU,aW,aT]
def sa(k:Int):T:=if k<2 then .num k else if k<5 then .sym (([[97],[98],[99]]:List (List c0)).getD (k-2).toNat [])else .nil
theorem agL(c:dA)(ar:c.ok):bI ax 115 [.ptr (.obj 401) 0] (b8 c) fun r ah=>r=(sa (c.below 7)).e/\ah=b8 c.next:=by
 have ag:=fR c;have ab:=c.below_le 7 Ω;have kA:c.belowC 7=c.next:=by simp[-bX,-bJ,dA.belowC]
 refine bI.mk mixed qy afD amH (by simp[-bX,-bJ]) ag.obj fun aR cI=>?_;unfold Sm;unfold b8;simp[-bX,-bJ];(refine cO.ob (vh c ar 7) (fR _) (by unfold b8;exact aL) (by unfold b8;exact aL) (by simp[-bX,-bJ,inObs,b8,Pv.look]) ?_;rintro r ah ⟨rfl,rfl⟩;refine⟨hM _ _,?_⟩;unfold b8;simp[-bX,-bJ,cb]);rw[kA];generalize ae:c.below 7=k at ab⊢;obtain⟨bH,rfl⟩:∃bH:Nat,k=bH:=⟨k.toNat,Ω⟩;rcases(by omega:bH=0\/bH=1\/bH=2\/bH=3\/bH=4\/bH=5\/bH=6)with rfl|rfl|rfl|rfl|rfl|rfl|rfl;all_goals simp[-bX,-bJ]
 all_goals(with_reducible repeat' first|refine aj ?_|refine aA (aay _) ?_|refine aB (aay _) ?_|refine aA (aaz _) ?_|refine aB (aaz _) ?_|simp[-bX,-bJ])
 all_goals(refine cP.at (b8 (c.next)) (.inl rfl) (fR _) (hM _ _) (by unfold b8;exact aL) (by unfold b8;exact aL) ?_;simp[-bX,-bJ,cW,YX,aU,aW,aT,b8])
 all_goals simp[-bX,-bJ,sa]
def dZ(size:Nat)(vars:Int)(c:dA):T×dA:=
 if 2<size/\3<=c.below 8 then
  (.pair (dZ (size/2) vars c.next).1 (dZ (size/2) vars (dZ (size/2) vars c.next).2).1,(dZ (size/2) vars (dZ (size/2) vars c.next).2).2)
 else if 0<vars/\(c.below 8).tmod 2=0 then(.var (c.next.below vars),c.next.belowC vars)
 else(sa (c.next.below 7),c.next.next)
termination_by size
theorem Af(size:Nat)(vars:Int):∀c:dA,c.ok->(dZ size vars c).2.ok:=by
 induction size using qA with
 |ind size bR=>
  intro c ar;rw[dZ];split
  ·rename_i h;exact bR _ Ω _ (bR _ Ω _ ar.next)
  ·split
   ·exact ar.next.below _
   ·exact ar.next.next
theorem GH(vars:Int)(ay:vars<=1000000)(size:Nat)(ba:size<=1000000):∀(c:dA),c.ok->bI ax 46 [.ptr (.obj 401) 0,.int .i64 size,.int .i64 vars] (b8 c) fun r ah=>r=(dZ size vars c).1.e/\ah=b8 (dZ size vars c).2:=by
 induction size using qA with
 |ind size bR=>
  intro c ar;have ag:=fR c;have ab:=c.below_le 8 Ω;have kA:c.belowC 8=c.next:=by simp[-bX,-bJ,dA.belowC]
  obtain⟨z,VP⟩:∃z,z=size/2:=⟨_,rfl⟩;have hdiv:nD.wrap ((size:Int)/2)=(z:Int):=by rw[mT _ Ω];omega
  have qe:∀h:2<size/\3<=c.below 8,dZ size vars c=(.pair (dZ z vars c.next).1 (dZ z vars (dZ z vars c.next).2).1,(dZ z vars (dZ z vars c.next).2).2):=fun h=>by rw[dZ,if_pos h,VP]
  have ahR:∀(h:¬(2<size/\3<=c.below 8)) (cd:0<vars/\(c.below 8).tmod 2=0),dZ size vars c=(.var (c.next.below vars),c.next.belowC vars):=fun h cd=>by rw[dZ,if_neg h,if_pos cd]
  have ahP:∀(h:¬(2<size/\3<=c.below 8)) (cd:¬(0<vars/\(c.below 8).tmod 2=0)),dZ size vars c=(sa (c.next.below 7),c.next.next):=fun h cd=>by rw[dZ,if_neg h,if_neg cd]
  have DO:2<size->∀c:dA,c.ok->bI ax 46 [.ptr (.obj 401) 0,.int .i64 z,.int .i64 vars] (b8 c) fun r ah=>r=(dZ z vars c).1.e/\ah=b8 (dZ z vars c).2:=fun h=>bR z Ω Ω;clear bR;refine bI.mk mixed qy afF amJ (by simp[-bX,-bJ]) ag.obj fun aR cI=>?_;unfold Sp;unfold b8;simp[-bX,-bJ];(refine cO.ob (vh c ar 8) (fR _) (by unfold b8;exact aL) (by unfold b8;exact aL) (by simp[-bX,-bJ,inObs,b8,Pv.look]) ?_;rintro r ah ⟨rfl,rfl⟩;refine⟨hM _ _,?_⟩;unfold b8;simp[-bX,-bJ,cb]);rw[kA];(with_reducible repeat' first|((first|apply bL|apply bN|apply bM)<;>intro h<;>try simp[-bX,-bJ]at h)|refine aj ?_|simp[-bX,-bJ,hdiv])
  ·rename_i U;(refine cO.ob (DO Ω c.next ar.next) (fR _) (by unfold b8;exact aL) (by unfold b8;exact aL) (by simp[-bX,-bJ,inObs,b8,Pv.look]) ?_;rintro r ah ⟨rfl,rfl⟩;refine⟨hM _ _,?_⟩;unfold b8;simp[-bX,-bJ,cb]);((with_reducible repeat' first|refine aj ?_|simp[-bX,-bJ,hdiv]|((first|apply bL|apply bN|apply bM)<;>intro h<;>try simp[-bX,-bJ]at h))<;>(try exact cm));(refine hH.ob (DO Ω (dZ z vars c.next).2 (Af _ _ _ ar.next)) (fR _) (fR _) (hM _ _) (by unfold b8;exact aL) (by unfold b8;exact aL) (by simp[-bX,-bJ,inObs,b8,Pv.look]) ?_;unfold b8;simp[-bX,-bJ,cb]);(with_reducible repeat' first|refine aj ?_|refine aA (Cf _ _) ?_|refine aB (Cf _ _) ?_|simp[-bX,-bJ]);rw[qe Ω];(refine cP.at (b8 ((dZ z vars (dZ z vars c.next).2).2)) (.inl rfl) (fR _) (hM _ _) (by unfold b8;exact aL) (by unfold b8;exact aL) ?_;simp[-bX,-bJ,cW,IF,aU,aW,aT,b8])
  all_goals first
   |(rw[ahR Ω ⟨Ω,by assumption⟩];(refine cO.ob (vh c.next ar.next vars) (fR _) (by unfold b8;exact aL) (by unfold b8;exact aL) (by simp[-bX,-bJ,inObs,b8,Pv.look]) ?_;rintro r ah ⟨rfl,rfl⟩;refine⟨hM _ _,?_⟩;unfold b8;simp[-bX,-bJ,cb]);(with_reducible repeat' first|refine aj ?_|refine aA (aaA _) ?_|refine aB (aaA _) ?_|simp[-bX,-bJ]);(refine cP.at (b8 (c.next.belowC vars)) (.inl rfl) (fR _) (hM _ _) (by unfold b8;exact aL) (by unfold b8;exact aL) ?_;simp[-bX,-bJ,cW,IF,aU,aW,aT,b8]);done)
   |(rw[ahP Ω (by rintro⟨J,U⟩;first|omega|contradiction|(simp_all;done))];(refine cO.ob (agL c.next ar.next) (fR _) (by unfold b8;exact aL) (by unfold b8;exact aL) (by simp[-bX,-bJ,inObs,b8,Pv.look]) ?_;rintro r ah ⟨rfl,rfl⟩;refine⟨hM _ _,?_⟩;unfold b8;simp[-bX,-bJ,cb]);(with_reducible repeat' first|refine aj ?_|simp[-bX,-bJ]);(refine cP.at (b8 (c.next.next)) (.inl rfl) (fR _) (hM _ _) (by unfold b8;exact aL) (by unfold b8;exact aL) ?_;simp[-bX,-bJ,cW,IF,aU,aW,aT,b8]);done)
def BW:List Int->Int->Int
 |[],h=>h
 |x::r,h=>BW r (x2 .i64 (h*131+x+7) 1073741823)
def xh(d:List Int):dA:=⟨d,0,BW (d.take 4000) (90411+d.length)⟩
def ajH(d:List Int)(k:Nat)(st:br):Prop:=∃(i:Nat) (h:Int),i<=d.length/\i<=4000/\k=d.length-i/\0<=h/\h<=2000000000/\BW ((d.take 4000).drop i) h=BW (d.take 4000) (90411+d.length)/\st=⟨[(0,.slice 1 .no (hP d)),(3,.int .i64 h),(4,.int .i64 i)],[],[],0,[]⟩
theorem agJ(d:List Int)(aF:rh d)(av:d.length<=10000000):bI ax 113 [.slice 1 .no (hP d)] ⟨[],[]⟩ fun r ah=>r= .ptr (.obj 401) 0/\ah=b8 (xh d):=by
 have ag:dM ⟨[],[]⟩:=(dM.of ⟨by intro m;simp[-bX,-bJ,Pv.look],by intro m;simp[-bX,-bJ,Pv.look]⟩ (by simp[-bX,-bJ,aN,aJ,inObs,Pv.look]) (by simp[-bX,-bJ,aN,aJ,inObs,Pv.look]));refine bI.mk mixed qy afB amF (by simp[-bX,-bJ]) ag.obj fun aR cI=>?_;unfold Sk;simp[-bX,-bJ];(with_reducible repeat' first|refine aj ?_|simp[-bX,-bJ]);refine nJ (ajH d) d.length _ ⟨by simp[-bX,-bJ],by simp[-bX,-bJ,gL],by simp[-bX,-bJ,oa],by simp[-bX,-bJ]⟩ ⟨0,90411+d.length,Ω,Ω,Ω,Ω,Ω,by simp[-bX,-bJ],rfl⟩ ?_;rintro k st ⟨i,g,hi,asL,ae,bE,J,iG,rfl⟩ ju cI;clear ju cI;have tY:¬(i<d.length/\i<4000)->g=BW (d.take 4000) (90411+d.length):=by intro au;rw[List.drop_of_length_le (by simp[-bX,-bJ];omega)]at iG;exact iG
 have kg:¬(i<d.length/\i<4000)->xh d=⟨d,0,g⟩:=fun au=>by simp[-bX,-bJ,xh,tY au]
 simp[-bX,-bJ];(with_reducible repeat' first|((first|apply bL|apply bN|apply bM)<;>intro h<;>try simp[-bX,-bJ]at h)|refine aj ?_|simp[-bX,-bJ])
 ·have bz:i<d.length:=Ω
  obtain⟨x,ad⟩:∃x,d[i]? =some x:=⟨_,bY bz⟩;have jv:∀h,(hP d)[i]'h= .int .u8 x:=fun h=>by have:=J9 ad;rw[bY h]at this;simpa using this
  have lO:=aF x (dP ad);have hw:nD.wrap x=x:=mT _ Ω;have qd:=JY (g*131+x+7) 1073741823 Ω Ω;simp[-bX,-bJ,J9 ad,hw];(with_reducible repeat' first|refine aj ?_|simp[-bX,-bJ]);refine bP.next (d.length-(i+1)) Ω ⟨i+1,_,Ω,Ω,rfl,qd.1,Ω,?_,rfl⟩ ⟨by simp[-bX,-bJ],by simp[-bX,-bJ,gL],by simp[-bX,-bJ,oa],by simp[-bX,-bJ]⟩;rw[<-iG,k8 (l:=d.take 4000) (i:=i) (by simp[-bX,-bJ];omega)];have:(d.take 4000)[i]'(by simp[-bX,-bJ];omega)=x:=by have:=ad;rw[bY bz]at this;simpa using this
  rw[this,BW]
 all_goals rw[kg Ω]
 all_goals refine cP.new (b8 ⟨d,0,g⟩) (.inl rfl) (fR _) (by simp[-bX,-bJ,kh]) (by unfold b8;exact aL) (by unfold b8;exact aL) ?_
 all_goals simp[-bX,-bJ,cW,YV,aU,aW,aT,b8,inObs,Pv.look]
def tj:Nat->dA->dA
 |0,c=>c
 |n+1,c=>(tj n c).next
theorem O7{c:dA}(h:c.ok):∀n,(tj n c).ok
 |0=>h
 |n+1=>(O7 h n).next
theorem Xv{d:List Int}(aF:rh d)(av:d.length<=10000000):(xh d).ok:=⟨aF,av,by simp[-bX,-bJ,xh]⟩
def gA(d:List Int)(n:Nat):dA:=tj n (xh d)
theorem CK{d:List Int}(aF:rh d)(av:d.length<=10000000)(n:Nat):(gA d n).ok:=O7 (Xv aF av) n
theorem nt(S:aM->Prop)(c:dA):aN S c.e:=by simp[-bX,-bJ,dA.e,aN,aJ]
def ajC(c:dA)(n:Nat)(k:Nat)(st:br):Prop:=∃i:Nat,i<=n/\k=n-i/\st=⟨[(1,.int .i64 n),(5,.ptr (.obj 401) 0),(6,.int .i64 i)],[(.obj 401,(tj i c).e)],[],0,[.obj 401]⟩
theorem GI(d:List Int)(aF:rh d)(av:d.length<=10000000)(n:Nat)(au:n<=1000000):bI ax 45 [.slice 1 .no (hP d),.int .i64 n] ⟨[],[]⟩ fun r ah=>r= .ptr (.obj 401) 0/\ah=b8 (gA d n):=by
 unfold gA;have ag:dM ⟨[],[]⟩:=(dM.of ⟨by intro m;simp[-bX,-bJ,Pv.look],by intro m;simp[-bX,-bJ,Pv.look]⟩ (by simp[-bX,-bJ,aN,aJ,inObs,Pv.look]) (by simp[-bX,-bJ,aN,aJ,inObs,Pv.look]));refine bI.mk mixed qy af8 anc (by simp[-bX,-bJ]) ag.obj fun aR cI=>?_;unfold SU;simp[-bX,-bJ];refine cO.new (agJ d aF av) ag aL aL (by simp[-bX,-bJ]) ?_;rintro r ah ⟨rfl,rfl⟩;refine⟨fun m _=>.inr (by simp[-bX,-bJ]),?_⟩;unfold b8;simp[-bX,-bJ,cb];refine nJ (ajC (xh d) n) n _ ⟨by simp[-bX,-bJ,fresh,aN,aJ,cz,inObs,Pv.look,nt,tj],eD (by simp[-bX,-bJ,fresh,aN,aJ,cz,inObs,Pv.look,nt,tj]),eE (by simp[-bX,-bJ,fresh,aN,aJ,eg,inObs,Pv.look,nt,tj]),by simp[-bX,-bJ]⟩ ⟨0,Ω,rfl,rfl⟩ ?_;rintro k st ⟨i,hi,ae,rfl⟩ ju cI;clear ju cI;simp[-bX,-bJ];(with_reducible repeat' first|((first|apply bL|apply bN|apply bM)<;>intro h<;>try simp[-bX,-bJ]at h)|refine aj ?_|simp[-bX,-bJ])
 ·(refine cO.ob (GG _ (O7 (Xv aF av) i)) (fR _) (by unfold b8;exact aL) (by unfold b8;exact aL) (by simp[-bX,-bJ,inObs,b8,Pv.look]) ?_;rintro r ah ⟨rfl,rfl⟩;refine⟨hM _ _,?_⟩;unfold b8;simp[-bX,-bJ,cb]);(with_reducible repeat' first|((first|apply bL|apply bN|apply bM)<;>intro h<;>try simp[-bX,-bJ]at h)|refine aj ?_|simp[-bX,-bJ]);refine bP.next (n-(i+1)) Ω ⟨i+1,Ω,rfl,rfl⟩ ⟨by simp[-bX,-bJ,fresh,aN,aJ,cz,inObs,Pv.look,nt,tj],eD (by simp[-bX,-bJ,fresh,aN,aJ,cz,inObs,Pv.look,nt,tj]),eE (by simp[-bX,-bJ,fresh,aN,aJ,eg,inObs,Pv.look,nt,tj]),by simp[-bX,-bJ]⟩
 ·obtain rfl:i=n:=Ω
  refine cP.new (b8 (tj i (xh d))) (.inl rfl) (fR _) (by simp[-bX,-bJ,kh]) (by unfold b8;exact aL) (by unfold b8;exact aL) ?_;simp[-bX,-bJ,cW,Y9,aU,aW,aT,b8,inObs,Pv.look]
theorem aaf(d:List Int)(aF:rh d)(av:d.length<=10000000)(n:Nat)(au:n<=1000000)(size:Nat)(ba:size<=1000000)(vars:Int)(ay:vars<=1000000):bQ ax 11 [.slice 1 .no (hP d),.int .i64 n,.int .i64 size,.int .i64 vars] (dZ size vars (gA d n)).1.e:=by refine bj qy afs amw fun aR=>?_;unfold Sb;simp[-bX,-bJ];refine cO.new (GI d aF av n au) ((dM.of ⟨by intro m;simp[-bX,-bJ,Pv.look],by intro m;simp[-bX,-bJ,Pv.look]⟩ (by simp[-bX,-bJ,aN,aJ,inObs,Pv.look]) (by simp[-bX,-bJ,aN,aJ,inObs,Pv.look]))) aL aL (by simp[-bX,-bJ]) ?_;rintro r ah ⟨rfl,rfl⟩;refine⟨fun m _=>.inr (by simp[-bX,-bJ]),?_⟩;unfold b8;simp[-bX,-bJ,cb];(refine cO.ob (GH vars ay size ba _ (CK aF av n)) (fR _) (by unfold b8;exact aL) (by unfold b8;exact aL) (by simp[-bX,-bJ,inObs,b8,Pv.look]) ?_;rintro r ah ⟨rfl,rfl⟩;refine⟨hM _ _,?_⟩;unfold b8;simp[-bX,-bJ,cb]);simp[-bX,-bJ,bk,YR,aU,aW,aT]
/-What is drawn. -/
theorem ab0(k:Int)(bE:0<=k)(J:k<7):(sa k).ok=true/\(∀v,(sa k).occ v=false)/\(sa k).size=1:=by obtain⟨n,rfl⟩:∃n:Nat,k=n:=⟨k.toNat,Ω⟩;rcases(by omega:n=0\/n=1\/n=2\/n=3\/n=4\/n=5\/n=6)with rfl|rfl|rfl|rfl|rfl|rfl|rfl<;>refine⟨?_,fun v=>?_,?_⟩<;>first|rfl|decide
theorem Tk(vars:Int)(ay:vars<=100001)(n:Nat):∀c:dA,(dZ n vars c).1.ok=true/\(∀v,(dZ n vars c).1.occ v=true->0<=v/\v<vars)/\(dZ n vars c).1.size<=2*n-1+(if n=0 then 1 else 0):=by
 induction n using qA with
 |ind n bR=>
  intro c;have ed:=c.next.below_le 7 Ω;rw[dZ];split
  ·rename_i h;obtain⟨bC,a2,a3⟩:=bR (n/2) Ω c.next;obtain⟨cg,cc,gq⟩:=bR (n/2) Ω (dZ (n/2) vars c.next).2;refine⟨by simp[T.ok,bC,cg],fun v ay=>?_,?_⟩
   ·simp only[T.occ,k6]at ay;rcases ay with ay|ay
    ·exact a2 v ay
    ·exact cc v ay
   ·simp only[T.size];split at a3<;>split at gq<;>split<;>omega
  ·split
   ·rename_i h;have:=c.next.below_le vars h.1;refine⟨by simp[T.ok];omega,fun v ay=>?_,by simp only[T.size];split<;>omega⟩;simp[T.occ]at ay;omega
   ·obtain⟨bC,a2,a3⟩:=ab0 _ ed.1 ed.2;refine⟨bC,fun v ay=>?_,?_⟩
    ·simp only[a2 v]at ay;cases ay
    ·simp only[a3];split<;>omega
theorem apU(d:List Int)(aF:rh d)(av:d.length<=10000000)(n:Nat)(au:n<=1000000):bQ ax 15 [.slice 1 .no (hP d),.int .i64 n] (.int .i64 ((gA d n).byte*256+(gA d n).next.byte)):=by have cg:=(gA d n).byte_le;have cc:=(gA d n).next.byte_le;refine bj qy afq amu fun aR=>?_;unfold R9;simp[-bX,-bJ];refine cO.new (GI d aF av n au) ((dM.of ⟨by intro m;simp[-bX,-bJ,Pv.look],by intro m;simp[-bX,-bJ,Pv.look]⟩ (by simp[-bX,-bJ,aN,aJ,inObs,Pv.look]) (by simp[-bX,-bJ,aN,aJ,inObs,Pv.look]))) aL aL (by simp[-bX,-bJ]) ?_;rintro r ah ⟨rfl,rfl⟩;refine⟨fun m _=>.inr (by simp[-bX,-bJ]),?_⟩;unfold b8;simp[-bX,-bJ,cb];(refine cO.ob (GG _ (CK aF av n)) (fR _) (by unfold b8;exact aL) (by unfold b8;exact aL) (by simp[-bX,-bJ,inObs,b8,Pv.look]) ?_;rintro r ah ⟨rfl,rfl⟩;refine⟨hM _ _,?_⟩;unfold b8;simp[-bX,-bJ,cb]);(with_reducible repeat' first|refine aj ?_|simp[-bX,-bJ]);(refine cO.ob (GG _ (CK aF av n).next) (fR _) (by unfold b8;exact aL) (by unfold b8;exact aL) (by simp[-bX,-bJ,inObs,b8,Pv.look]) ?_;rintro r ah ⟨rfl,rfl⟩;refine⟨hM _ _,?_⟩;unfold b8;simp[-bX,-bJ,cb]);exact cp
def mM(p:Nat->Bool)(i j:Nat):Nat:=if i<j then(if p ((i+j)/2)then mM p i ((i+j)/2)else mM p ((i+j)/2+1) j)else i
termination_by j-i
def ajK(s:cR)(n g:Nat)(dt:List ak)(p:Nat->Bool)(k:Nat)(st:br):Prop:=∃i j:Nat,i<=j/\j<=n/\k=j-i/\mM p i j=mM p 0 n/\st=⟨[(1,.func g dt),(5,.int .i64 i),(6,.int .i64 j)],s.b,s.e,0,c3 s⟩
theorem agy(s:cR)(ag:dM s)(n g:Nat)(au:n<=1000000)(dt:List ak)(ar:aN (inObs s) dt)(dh:c7 dt=dt)(p:Nat->Bool)(aQ:∀i:Nat,i<n->bI ax g (.int .i64 i::dt) s fun r ah=>r= .bool (p i)/\ah=s):
  bI ax 211 [.int .i64 n,.func g dt] s fun r ah=>r= .int .i64 (mM p 0 n)/\ah=s:=by
 refine bI.mk mixed fN ae3 al7 Ψ ag.obj fun aR cI=>?_;unfold RK;simp;refine nJ (ajK s n g dt p) n _ (jc.ob ag (by simp[ar]) aL aL) ⟨0,n,Ω,Ω,rfl,rfl,rfl⟩ ?_;rintro k st ⟨i,j,lp,af,ae,Mm,rfl⟩ ju cI;clear ju cI;simp;refine bL (fun bz=>?_) (fun wK=>?_)
 ·simp at bz;have hw:hF.wrap ((i:Int)+j)=i+j:=by simp[tz,oh,r3];omega
  obtain⟨m,hm⟩:∃m,m=(i+j)/2:=⟨_,rfl⟩;have aF:Int.fdiv ((i:Int)+j) 2=(m:Int):=by rw[Int.fdiv_eq_ediv_of_nonneg _ Ω];omega
  have pD:nD.wrap (m:Int)=m:=by rw[mT];omega
  have LG:hF.bits=64:=rfl;simp[hw,dh,LG,aF,pD];refine⟨by unfold pE;omega,?_⟩;refine cO.ob (aQ m Ω) ag aL aL (by simp[ar]) ?_;rintro r ah ⟨rfl,rfl⟩;refine⟨Same.refl _,?_⟩;simp[hr];(with_reducible repeat' first|((first|apply bL|apply bN|apply bM)<;>intro h<;>try simp at h)|refine aj ?_|simp)
  ·simp only[Fz];refine⟨j-(m+1),_,Ω,jc.ob ag (by simp[ar]) aL aL,m+1,j,Ω,Ω,rfl,?_,rfl⟩;rw[<-Mm];conv=>rhs;unfold mM
   simp[bz,<-hm,h]
  ·simp only[Fz];refine⟨m-i,_,Ω,jc.ob ag (by simp[ar]) aL aL,i,m,Ω,Ω,rfl,?_,rfl⟩;rw[<-Mm];conv=>rhs;unfold mM
   simp[bz,<-hm,h]
 ·simp at wK;have:mM p 0 n=i:=by rw[<-Mm];unfold mM;rw[if_neg Ω]
  rw[this];simp;refine cP.at s (.inl rfl) ag (Same.refl s) aL aL ?_;simp[cW,YI,aU,aW,aT]
def nL(l:List ai)(v:Int):Int:=
 let i:=mM (fun i=>match l[i]? with|some b=>decide (v<=b.v)|none=>false) 0 l.length
 match l[i]? with|some b=>if b.v=v then i else-1|none=> -1
theorem agF(l:List ai)(v:Int)(i:Nat)(b:ai)(ab:l[i]? =some b):bI ax 212 [.int .i64 i,.ptr (.obj 101) 0,.ptr (.obj 102) 0] ⟨[(.obj 101,[.slice 5 .no (l.map ai.e)]),(.obj 102,[.int .i64 v])],[]⟩ fun r ah=>r= .bool (decide (v<=b.v))/\ah=⟨[(.obj 101,[.slice 5 .no (l.map ai.e)]),(.obj 102,[.int .i64 v])],[]⟩:=by have ag:dM ⟨[(.obj 101,[.slice 5 .no (l.map ai.e)]),(.obj 102,[.int .i64 v])],[]⟩:=(dM.of ⟨by intro m;simp[Pv.look],by intro m;simp[Pv.look]⟩ (by simp[aN,aJ,inObs,Pv.look]) (by simp[aN,aJ,inObs,Pv.look]));have bz:i<l.length:=(eS.1 ab).1;refine bI.mk mixed fN aeJ alM Ψ ag.obj fun aR cI=>?_;unfold Rq;simp[ab];(with_reducible repeat' first|refine aj ?_|simp);refine cP.at _ (.inl rfl) ag (Same.refl _) aL aL ?_;simp[cW,Yz,aU,aW,aT]
theorem uM(l:List ai)(v:Int)(av:l.length<=1000000):bQ ax 134 [.slice 5 .no (l.map ai.e),.int .i64 v] (.int .i64 (nL l v)):=by
 refine bj fN aeI alL fun aR=>?_;unfold Rp;simp;have ag:dM ⟨[(.obj 101,[.slice 5 .no (l.map ai.e)]),(.obj 102,[.int .i64 v])],[]⟩:=(dM.of ⟨by intro m;simp[Pv.look],by intro m;simp[Pv.look]⟩ (by simp[aN,aJ,inObs,Pv.look]) (by simp[aN,aJ,inObs,Pv.look]));refine cO.ob (agy ⟨[(.obj 101,[.slice 5 .no (l.map ai.e)]),(.obj 102,[.int .i64 v])],[]⟩ ag l.length 212 av [.ptr (.obj 101) 0,.ptr (.obj 102) 0] (by simp[inObs]) Ψ (fun i=>match l[i]? with|some b=>decide (v<=b.v)|none=>false) fun i hi=>?_) ag aL aL (by simp[inObs]) ?_
 ·obtain⟨b,ab⟩:∃b,l[i]? =some b:=⟨_,bY hi⟩;simp only[ab];exact agF l v i b ab
 rintro r ah ⟨rfl,rfl⟩;refine⟨Same.refl _,?_⟩;unfold nL;generalize mM _ 0 l.length=i;cases ab:l[i]? with
 |none=>
  have bz:¬i<l.length:=by simpa using ab
  simp[cb,bz];exact cp
 |some b=>
  have bz:i<l.length:=(eS.1 ab).1;simp[cb,ab,bz];((with_reducible repeat' first|refine aj ?_|simp[ab]|((first|apply bL|apply bN|apply bM)<;>intro h<;>try simp at h))<;>(try exact cm));all_goals simp[bk,Yy,aU,aW,aT]
  all_goals simp_all
def s9(l:List ai)(v:Int):Option T:=if nL l v<0 then none else(l[(nL l v).toNat]?).map (·.t)
theorem T2(l:List ai)(v:Int):nL l v<l.length/\ -1<=nL l v:=by
 unfold nL;simp only;split
 ·rename_i b ab;have:=(eS.1 ab).1;split<;>omega
 ·omega
theorem Uh(l:List ai)(v:Int)(av:l.length<=1000000)(o:Option T)(aw:o=s9 l v):bI ax 182 [.int .i64 v,.ptr (.obj 201) 0] ⟨[(.obj 201,[.slice 5 .no (l.map ai.e)])],[]⟩ fun r ah=>r= .tuple [(o.getD .nil).e,.bool o.isSome]/\ah=⟨[(.obj 201,[.slice 5 .no (l.map ai.e)])],[]⟩:=by
 have ag:dM ⟨[(.obj 201,[.slice 5 .no (l.map ai.e)])],[]⟩:=(dM.of ⟨by intro m;simp[Pv.look],by intro m;simp[Pv.look]⟩ (by simp[aN,aJ,inObs,Pv.look]) (by simp[aN,aJ,inObs,Pv.look]));have bz:=(T2 l v).1;unfold s9 at aw;refine bI.mk mixed fN aeU alX Ψ ag.obj fun aR cI=>?_;unfold RB;simp;(with_reducible repeat' first|((first|apply bL|apply bN|apply bM)<;>intro h<;>try simp at h)|refine aj ?_|refine aA (uM l v av) ?_|refine aB (uM l v av) ?_|simp)
 ·obtain⟨b,ab⟩:∃b,l[(nL l v).toNat]? =some b:=⟨_,bY Ω⟩;have hb:o=some b.t:=by rw[aw,if_neg Ω,ab];rfl
  simp[ab];(with_reducible repeat' first|((first|apply bL|apply bN|apply bM)<;>intro h<;>try simp at h)|refine aj ?_|simp[ab]);refine cP.at _ (.inl rfl) ag (Same.refl _) aL aL ?_;simp[cW,Oe,aU,aW,aT];simp[hb]
 ·have hb:o=none:=by rw[aw,if_pos h]
  refine cP.at _ (.inl rfl) ag (Same.refl _) aL aL ?_;simp[cW,Oe,aU,aW,aT];simp[hb]
theorem ag1(s:cR)(ag:dM s)(g:Nat)(dt:List ak)(ar:aN (inObs s) dt)(dh:c7 dt=dt)(f:Int->Int)(Dj:∀v,-1<=f v)(t:T)(aQ:∀v,t.occ v=true->bI ax g (.int .i64 v::dt) s fun r ah=>r= .int .i64 (f v)/\ah=s):
  bI ax 239 [t.e,.func g dt] s fun r ah=>r= .int .i64 (lS f t)/\ah=s:=by
 have au:∀m,Pv.look (.loc m) s.b=none:=ag.obj.1;have hu:∀m cs,cF (.loc m) cs s.b=s.b++[(.loc m,cs)]:=fun m cs=>kr (au m);have aw:∀m,aM.loc m∉c3 s:=kl ag.obj;induction t with
 |pair a b dJ dK=>
  have asZ:=Jh f Dj a;have as2:=Jh f Dj b;refine bI.mk mixed fN yb y7 Ψ ag.obj fun aR cI=>?_;unfold wu;simp[hu,aw,cS,au,dh];(with_reducible repeat' first|refine aj ?_|simp[hu,aw,cS,au]);refine cO.ob (dJ fun v ay=>aQ v (by simp[T.occ,ay])) ag aL aL (by simp[ar]) ?_;rintro r ah ⟨rfl,rfl⟩;refine⟨Same.refl _,?_⟩;simp[hr,iW,cb,au];(with_reducible repeat' first|((first|apply bL|apply bN|apply bM)<;>intro h<;>try simp at h)|refine aj ?_|simp[hu,aw,cS,au])
  ·refine cP.at ah (.inl rfl) ag (Same.refl _) aL aL ?_;simp[cW,vT,aU,aW,aT];simp[lS];omega
  ·rw[dh];refine cO.ob (dK fun v ay=>aQ v (by simp[T.occ,ay])) ag aL aL (by simp[ar]) ?_;rintro r s2 ⟨rfl,rfl⟩;refine⟨Same.refl _,?_⟩;simp[hr,iW,cb,au];(with_reducible repeat' first|((first|apply bL|apply bN|apply bM)<;>intro h<;>try simp at h)|refine aj ?_|simp[hu,aw,cS,au]);refine cP.at s2 (.inl rfl) ag (Same.refl _) aL aL ?_;simp[cW,vT,aU,aW,aT];simp[lS];omega
 |var n=>refine bI.mk mixed fN yb y7 Ψ ag.obj fun aR cI=>?_;unfold wu;simp[hu,aw,cS,au,dh];(with_reducible repeat' first|refine aj ?_|simp[hu,aw,cS,au]);refine cO.ob (aQ n (by simp[T.occ])) ag aL aL (by simp[ar]) ?_;rintro r ah ⟨rfl,rfl⟩;refine⟨Same.refl _,?_⟩;simp[hr,iW,cb,au];refine cP.at ah (.inl rfl) ag (Same.refl _) aL aL ?_;simp[cW,vT,aU,aW,aT];simp[lS]
 |_=>refine bI.mk mixed fN yb y7 Ψ ag.obj fun aR cI=>?_;unfold wu;simp[hu,aw,cS,au,dh];(with_reducible repeat' first|refine aj ?_|simp[hu,aw,cS,au]);refine cP.at s (.inl rfl) ag (Same.refl _) aL aL ?_;simp[cW,vT,aU,aW,aT];simp[lS]
theorem agO(s:cR)(ag:dM s)(g:Nat)(dt:List ak)(ar:aN (inObs s) dt)(dh:c7 dt=dt)(f:Int->Option T)(t:T)(aQ:∀v,t.occ v=true->bI ax g (.int .i64 v::dt) s fun r ah=>r= .tuple [((f v).getD .nil).e,.bool (f v).isSome]/\ah=s):
  bI ax 153 [t.e,.func g dt] s fun r ah=>r=(t.sub f).e/\ah=s:=by
 have au:∀m,Pv.look (.loc m) s.b=none:=ag.obj.1;have cK:∀m,Pv.look (.loc m) s.e=none:=ag.obj.2;have hu:∀m cs,cF (.loc m) cs s.b=s.b++[(.loc m,cs)]:=fun m cs=>kr (au m);have aw:∀m,aM.loc m∉c3 s:=kl ag.obj;have mf:∀m p r,cF (.loc m) p (s.b++r)=s.b++cF (.loc m) p r:=fun m p r=>Cc (au m);induction t with
 |pair a b dJ dK=>refine bI.mk mixed fN Ak Bx Ψ ag.obj fun aR cI=>?_;unfold x6;simp[hu,aw,cS,au,cK,dh,mf];(with_reducible repeat' first|refine aj ?_|simp[hu,aw,cS,au,cK,mf]);refine hH.ob (dJ fun v ay=>aQ v (by simp[T.occ,ay])) ag ag (Same.refl _) aL aL (by simp[ar]) ?_;simp[hr,iW,cb,au,dh];refine hH.ob (dK fun v ay=>aQ v (by simp[T.occ,ay])) ag ag (Same.refl _) aL aL (by simp[ar]) ?_;simp[hr,iW,cb,au,dh];(with_reducible repeat' first|refine aj ?_|refine aA (Jx _ _) ?_|refine aB (Jx _ _) ?_|simp);refine cP.at s (.inl rfl) ag (Same.refl _) aL aL ?_;simp[cW,ze,aU,aW,aT,cS,au];simp[T.sub]
 |var n=>
  refine bI.mk mixed fN Ak Bx Ψ ag.obj fun aR cI=>?_;unfold x6;simp[hu,aw,cS,au,dh,mf];(with_reducible repeat' first|refine aj ?_|simp[hu,aw,cS,au,mf]);refine cO.ob (aQ n (by simp[T.occ])) ag aL aL (by simp[ar]) ?_;rintro r ah ⟨rfl,rfl⟩;refine⟨Same.refl _,?_⟩;simp[hr,iW,cb,au,hu,aw,cS];(with_reducible repeat' first|((first|apply bL|apply bN|apply bM)<;>intro h<;>try simp at h)|refine aj ?_|refine aA (uL _) ?_|refine aB (uL _) ?_|simp[hu,aw,cS,au,mf]);all_goals refine cP.at ah (.inl rfl) ag (Same.refl _) aL aL ?_
  all_goals simp[cW,ze,aU,aW,aT,cS,au]
  all_goals cases rB:f n<;>simp_all[T.sub]
 |_=>refine bI.mk mixed fN Ak Bx Ψ ag.obj fun aR cI=>?_;unfold x6;simp[hu,aw,cS,au,dh,mf];(with_reducible repeat' first|((first|apply bL|apply bN|apply bM)<;>intro h<;>try simp at h)|refine aj ?_|simp[hu,aw,cS,au,mf]);refine cP.at s (.inl rfl) ag (Same.refl _) aL aL ?_;simp[cW,ze,aU,aW,aT,cS,au];simp[T.sub]
def o6(l:List ai):cR:=⟨[(.obj 201,[.slice 5 .no (l.map ai.e)])],[]⟩
def r8(l:List ai):cR:=⟨[(.obj 201,[.slice 5 .no (l.map ai.e)]),(.obj 202,[.func 182 [.ptr (.obj 201) 0]])],[]⟩
theorem Cr(l:List ai):dM (o6 l):=by unfold o6;exact(dM.of ⟨by intro m;simp[Pv.look],by intro m;simp[Pv.look]⟩ (by simp[aN,aJ,inObs,Pv.look]) (by simp[aN,aJ,inObs,Pv.look]))
theorem JG(l:List ai):dM (r8 l):=by unfold r8;exact(dM.of ⟨by intro m;simp[Pv.look],by intro m;simp[Pv.look]⟩ (by simp[aN,aJ,inObs,Pv.look]) (by simp[aN,aJ,inObs,Pv.look]))
def ve(l:List ai)(v:Int):Int:=match s9 l v with|some x=>fB x.tm 5000|none=>1
theorem agr(l:List ai)(v:Int): -1<=ve l v:=by
 unfold ve;split
 ·rename_i x _;rcases El x.tm 5000 with h|h<;>omega
 ·omega
theorem aaL(t:T):bQ ax 194 [t.e,.int .i64 5000] (.int .i64 (fB t.tm 5000)):=by have:=aaK t.tm.sz t.tm (eu _) 5000 Ω;rwa[lj]at this
theorem agY(l:List ai)(v:Int)(av:l.length<=1000000):bI ax 240 [.int .i64 v,.ptr (.obj 202) 0] (r8 l) fun r ah=>r= .int .i64 (ve l v)/\ah=r8 l:=by
 have ag:=JG l;unfold r8 at ag⊢;refine bI.mk mixed fN aeW alZ Ψ ag.obj fun aR cI=>?_;unfold RD;simp;refine cO.ob (Uh l v av _ rfl) (Cr l) aL aL (by simp[inObs]) ?_;rintro r ah ⟨rfl,rfl⟩;refine⟨Same.refl _,?_⟩;simp[cb];(with_reducible repeat' first|((first|apply bL|apply bN|apply bM)<;>intro h<;>try simp at h)|refine aj ?_|refine aA (aaL _) ?_|refine aB (aaL _) ?_|simp);all_goals refine cP.at _ (.inl rfl) ag (Same.refl _) aL aL ?_
 all_goals simp[cW,YG,aU,aW,aT]
 all_goals unfold ve
 all_goals cases bD:s9 l v<;>simp_all
def EF(l:List ai)(t:T):T:=t.sub (s9 l)
def uB(l:List ai)(t:T):Bool:=decide (lS (ve l) t<=5000)
theorem agX(l:List ai)(t:T)(av:l.length<=1000000):bI ax 181 [t.e,.func 182 [.ptr (.obj 201) 0]] (o6 l) fun r ah=>r= .tuple [(if uB l t then EF l t else .nil).e,.bool (uB l t)]/\ah=o6 l:=by
 have ag:=Cr l;unfold o6 at ag⊢;refine bI.mk mixed fN aeV alY Ψ ag.obj fun aR cI=>?_;unfold RC;simp;refine cO.ob (ag1 (r8 l) (JG l) 240 [.ptr (.obj 202) 0] (by simp[inObs,r8]) Ψ (ve l) (agr l) t fun v ay=>agY l v av) (JG l) (by unfold r8;exact aL) (by unfold r8;exact aL) (by simp[inObs,r8]) ?_;rintro r ah ⟨rfl,rfl⟩;refine⟨Same.refl _,?_⟩;unfold r8;simp[cb];(with_reducible repeat' first|((first|apply bL|apply bN|apply bM)<;>intro h<;>try simp at h)|refine aj ?_|simp)
 ·refine cP.at _ (.inl rfl) ag (Same.refl _) aL aL ?_;simp[cW,Og,aU,aW,aT];have:uB l t=false:=by simp[uB];omega
  simp[this]
 ·refine cO.ob (agO (o6 l) (Cr l) 182 [.ptr (.obj 201) 0] (by simp[inObs,o6]) Ψ (s9 l) t fun v ay=>Uh l v av _ rfl) (Cr l) (by unfold o6;exact aL) (by unfold o6;exact aL) (by simp[inObs,o6]) ?_;rintro r ah ⟨rfl,rfl⟩;refine⟨Same.refl _,?_⟩;unfold o6;simp[cb];refine cP.at _ (.inl rfl) ag (Same.refl _) aL aL ?_;simp[cW,Og,aU,aW,aT];have:uB l t=true:=by simp[uB];omega
  simp[this,EF]
theorem aqw(l:List ai)(t:T)(av:l.length<=1000000):bQ ax 95 [.slice 5 .no (l.map ai.e),t.e] (.tuple [(if uB l t then EF l t else .nil).e,.bool (uB l t)]):=by refine bj fN aeT alW fun aR=>?_;unfold RA;simp;refine cO.ob (agX l t av) (Cr l) (by unfold o6;exact aL) (by unfold o6;exact aL) (by simp[inObs,o6]) ?_;rintro r ah ⟨rfl,rfl⟩;refine⟨Same.refl _,?_⟩;unfold o6;simp[cb];simp[bk,YF,aU,aW,aT]
end
end Go.Proofs.YtohaalphocaebaaGreat
namespace Go.Pv
section
open Go
def T.ap(θ:Int->T):T->T
 | .var n=>θ n
 | .pair a b=>.pair (a.ap θ) (b.ap θ)
 |t=>t
theorem x3(f g:Int->T)(t:T):(t.ap f).ap g=t.ap fun v=>(f v).ap g:=by
 induction t with
 |pair a b dJ dK=>simp[T.ap,dJ,dK]
 |_=>simp[T.ap]
theorem p1{f g:Int->T}{t:T}(h:∀v,t.occ v=true->f v=g v):t.ap f=t.ap g:=by
 induction t with
 |var n=>exact h n (by simp[T.occ])
 |pair a b dJ dK=>simp only[T.ap];rw[dJ fun v ay=>h v (by simp[T.occ,ay]),dK fun v ay=>h v (by simp[T.occ,ay])]
 |_=>rfl
theorem abN(t:T):t.ap .var=t:=by induction t<;>simp_all[T.ap]
theorem J0{f:Int->T}{t:T}(h:∀v,t.occ v=true->f v= .var v):t.ap f=t:=(p1 h).trans (abN t)
theorem Pm(f:Int->Option T)(t:T):t.sub f=t.ap fun v=>(f v).getD (.var v):=by
 induction t with
 |var n=>simp only[T.sub,T.ap];cases f n<;>rfl
 |pair a b dJ dK=>simp[T.sub,T.ap,dJ,dK]
 |_=>rfl
theorem abM(θ:Int->T)(t:T):t.size<=(t.ap θ).size:=by
 induction t with
 |var n=>exact T.size_pos _
 |pair a b dJ dK=>simp only[T.ap,T.size];omega
 |_=>exact eu _
theorem y3(θ:Int->T){v:Int}{t:T}(h:t.occ v=true):(θ v).size<=(t.ap θ).size/\(t.kind≠1->(θ v).size<(t.ap θ).size):=by
 induction t with
 |var n=>simp[T.occ]at h;subst h;simp[T.ap,T.kind]
 |pair a b dJ dK=>
  simp only[T.occ,k6]at h;simp only[T.ap,T.size];rcases h with h|h
  ·have:=(dJ h).1;exact⟨Ω,fun _=>Ω⟩
  ·have:=(dK h).1;exact⟨Ω,fun _=>Ω⟩
 |_=>simp[T.occ]at h
theorem Bu{θ:Int->T}{v:Int}{t:T}:(t.ap θ).occ v=true↔∃w,t.occ w=true/\(θ w).occ v=true:=by
 induction t with
 |var n=>simp[T.ap,T.occ]
 |pair a b dJ dK=>
  simp only[T.ap,T.occ,k6,dJ,dK];constructor
  ·rintro(⟨w,J,U⟩|⟨w,J,U⟩)
   ·exact⟨w,.inl J,U⟩
   ·exact⟨w,.inr J,U⟩
  ·rintro⟨w,J|J,U⟩
   ·exact .inl ⟨w,J,U⟩
   ·exact .inr ⟨w,J,U⟩
 |_=>simp[T.ap,T.occ]
def aY(s:List ai)(v:Int):T:=(df s v).getD (.var v)
abbrev hf(s:List ai):Prop:=s.Pairwise fun x y=>x.v<y.v
def dY(s:List ai)(θ:Int->T):Prop:= ∀b∈s,θ b.v=b.t.ap θ
structure eT (s:List ai):Prop where
 asc:hf s
 free:∀b∈s,∀w,b.t.occ w=true->df s w=none
 ori:∀b∈s,∀w,b.t= .var w->w<b.v
theorem u3(b:ai)(s:List ai)(v:Int):df (b::s) v=if b.v=v then some b.t else df s v:=by
 unfold df;by_cases h:b.v=v
 ·simp[h]
 ·have:(b.v==v)=false:=by simp[h]
  simp[this,h,List.find?_cons]
theorem jI{v:Int}{t:T}:∀{s:List ai},df s v=some t->(⟨v,t⟩:ai)∈s
 |[],h=>by simp[df]at h
 |b::s,h=>by
  rw[u3]at h;split at h
  ·rename_i e;cases h;subst e;simp
  ·exact o1 _ (jI h)
theorem wk{v:Int}:∀{s:List ai},df s v=none↔∀b∈s,b.v≠v
 |[]=>by simp[df]
 |b::s=>by
  rw[u3];by_cases h:b.v=v
  ·simp[h]
  ·simp[h,wk (s:=s)]
theorem sb{b:ai}:∀{s:List ai},hf s->b∈s->df s b.v=some b.t
 |[],_,h=>by simp at h
 |c::s,bm,h=>by
  rw[u3];have nO:=mU.1 bm;rcases e7.1 h with rfl|h
  ·simp
  ·have:=nO.1 b h;rw[if_neg Ω];exact sb nO.2 h
theorem Qu:∀{s ah:List ai},hf s->hf ah->(∀v,df s v=df ah v)->s=ah
 |[],[],_,_,_=>rfl
 |[],c::ah,_,_,h=>by have:=h c.v;rw[u3]at this;simp[df]at this
 |c::s,[],_,_,h=>by have:=h c.v;rw[u3]at this;simp[df]at this
 |b::s,c::ah,bm,ab,h=>by
  have gk:=mU.1 ab;have nO:=mU.1 bm;have J:(⟨b.v,b.t⟩:ai)∈c::ah:=jI (by rw[<-h b.v,u3];simp);have U:(⟨c.v,c.t⟩:ai)∈b::s:=jI (by rw[h c.v,u3];simp);have UH:b=c:=by
   rcases e7.1 J with e|e
   ·exact e
   ·rcases e7.1 U with aG|aG
    ·exact aG.symm
    ·have a1:=gk.1 _ e;have bp:=nO.1 _ aG;simp only at a1 bp;omega
  subst UH;rw[Qu nO.2 gk.2 fun v=>?_];have:=h v;rw[u3,u3]at this;by_cases e:b.v=v
  ·have lD:df s v=none:=wk.2 fun x ad=>by have:=nO.1 x ad;omega
   have z2:df ah v=none:=wk.2 fun x ad=>by have:=gk.1 x ad;omega
   rw[lD,z2]
  ·simpa[e]using this
theorem Pc{s:List ai}(bm:hf s){θ:Int->T}:dY s θ↔∀v,θ v=(aY s v).ap θ:=by
 constructor
 ·intro h v;unfold aY;cases e:df s v with
  |none=>rfl
  |some t=>exact h _ (jI e)
 ·intro h b ab;have:=h b.v;rw[aY,sb bm ab]at this;exact this
theorem Pb{s:List ai}{θ:Int->T}(h:dY s θ)(t:T):t.ap θ=(t.ap (aY s)).ap θ:=by
 rw[x3];refine p1 fun v _=>?_;unfold aY;cases e:df s v with
 |none=>rfl
 |some t=>exact h _ (jI e)
theorem aoO{s:List ai}(ag:eT s){t:T}(h:∀w,t.occ w=true->df s w=none):t.ap (aY s)=t:=J0 fun v ay=>by simp[aY,h v ay]
theorem wa{s:List ai}(ag:eT s):dY s (aY s):=fun b ab=>by rw[aoO ag (ag.free b ab),aY,sb ag.asc ab];rfl
theorem Nu{s ah:List ai}(ag:eT s)(fe:eT ah)(h:∀θ,dY ah θ->dY s θ){v:Int}(ay:df ah v=none):df s v=none:=by
 cases e:df s v with
 |none=>rfl
 |some t=>
  have J:=h _ (wa fe) _ (jI e);simp only[aY,ay,kc]at J;cases t with
  |var w=>
   have U:w<v:=ag.ori _ (jI e) w rfl;simp only[T.ap,aY]at J;cases bG:df ah w with
   |none=>rw[bG]at J;simp at J;omega
   |some u=>rw[bG]at J;simp only[jo]at J;subst J;have:=fe.ori _ (jI bG) v rfl;simp only at this;omega
  |_=>simp[T.ap]at J
theorem akX{s ah:List ai}(fe:eT ah)(h:∀θ,dY ah θ->dY s θ){v:Int}:(aY s v).size<=(aY ah v).size:=by
 have J:=h _ (wa fe);unfold aY;cases e:df s v with
 |none=>exact T.size_pos _
 |some t=>have:=J _ (jI e);show t.size<=(aY ah v).size;simp only at this;rw[this];exact abM _ _
theorem ZL{s ah:List ai}(ag:eT s)(fe:eT ah)(h:∀θ,dY s θ↔dY ah θ):s=ah:=by
 refine Qu ag.asc fe.asc fun v=>?_;have d1:∀w,df s w=none↔df ah w=none:=fun w=>⟨Nu fe ag (fun θ=>(h θ).1),Nu ag fe fun θ=>(h θ).2⟩;cases e:df s v with
 |none=>exact((d1 v).1 e).symm
 |some t=>
  cases fF:df ah v with
  |none=>rw[(d1 v).2 fF]at e;cases e
  |some dO=>have J:=(h _).2 (wa fe) _ (jI e);simp only[aY,fF,jo]at J;rw[J];exact eP some (J0 fun w hw=>by have:=(d1 w).1 (ag.free _ (jI e) w hw);simp[aY,this]).symm
def fP(s:List ai):Prop:=s.length<=400/\∀b∈s,b.t.size<=5000
theorem abX{s:List ai}(h:hf s):(s.map (·.v)).Nodup:=by rw[List.nodup_iff_pairwise_ne,List.pairwise_map];exact h.imp fun h=>Ω
theorem TX{s ah:List ai}(ag:eT s)(fe:eT ah)(h:∀θ,dY ah θ->dY s θ)(aQ:fP ah):fP s:=by
 have aF:∀x∈s.map (·.v),x∈ah.map (·.v):=by
  intro x ad;obtain⟨b,ab,rfl⟩:=hG.1 ad;cases e:df ah b.v with
  |none=>have:=Nu ag fe h e;rw[sb ag.asc ab]at this;cases this
  |some t=>exact hG.2 ⟨_,jI e,rfl⟩
 have av:=Fx (abX ag.asc) aF;simp only[r5]at av;refine⟨gS av aQ.1,fun b ab=>?_⟩;have J:=akX (s:=s) fe h (v:=b.v);rw[aY,sb ag.asc ab]at J;obtain⟨c,ar,e⟩:=hG.1 (aF b.v (hG.2 ⟨b,ab,rfl⟩));have U:=aQ.2 c ar;rw[aY,<-e,sb fe.asc ar]at J;exact gS J U
def il(E:List (T×T))(θ:Int->T):Prop:= ∀e∈E,e.1.ap θ=e.2.ap θ
theorem E7(θ:Int->T):il [] θ:=fun _ h=>by simp at h
theorem rR{e:T×T}{E:List (T×T)}{θ:Int->T}:il (e::E) θ↔e.1.ap θ=e.2.ap θ/\il E θ:=by simp[il]
theorem E6{E mW:List (T×T)}{θ:Int->T}:il (E++mW) θ↔il E θ/\il mW θ:=by simp only[il,iz];exact⟨fun h=>⟨fun e he=>h e (.inl he),fun e he=>h e (.inr he)⟩,fun h e he=>he.elim (h.1 e) (h.2 e)⟩
def jb(s:List ai)(E:List (T×T)):Option (List ai)->Prop
 |some ah=>(eT ah/\fP ah)/\∀θ,dY ah θ↔dY s θ/\il E θ
 |none=> ∀ah,eT ah->(∀θ,dY ah θ->dY s θ/\il E θ)->¬fP ah
theorem aby{s:List ai}{E:List (T×T)}:∀{o o':Option (List ai)},jb s E o->jb s E o'->o=o'
 |none,none,_,_=>rfl
 |some s1,none,h,cd=>absurd h.1.2 (cd s1 h.1.1 fun θ=>(h.2 θ).1)
 |none,some s1,cd,h=>absurd h.1.2 (cd s1 h.1.1 fun θ=>(h.2 θ).1)
 |some s1,some s2,h,cd=>by rw[ZL h.1.1 cd.1.1 fun θ=>(h.2 θ).trans (cd.2 θ).symm]
theorem zQ{s s2:List ai}{E P7:List (T×T)}(h:∀θ,(dY s θ/\il E θ)↔(dY s2 θ/\il P7 θ)):∀{o:Option (List ai)},jb s E o->jb s2 P7 o
 |none,aK=>fun ah J U=>aK ah J fun θ gb=>(h θ).2 (U θ gb)
 |some s1,aK=>⟨aK.1,fun θ=>(aK.2 θ).trans (h θ)⟩
theorem JR{s s1:List ai}{E mW:List (T×T)}(h:jb s E (some s1)):∀{o:Option (List ai)},jb s1 mW o->jb s (E++mW) o
 |none,aK=>fun ah J U=>aK ah J fun θ gb=>⟨(h.2 θ).2 ⟨(U θ gb).1,(E6.1 (U θ gb).2).1⟩,(E6.1 (U θ gb).2).2⟩
 |some s2,aK=>⟨aK.1,fun θ=>by rw[aK.2 θ,h.2 θ,E6,and_assoc]⟩
theorem FL{s:List ai}{E:List (T×T)}(mW:List (T×T))(h:jb s E none):jb s (E++mW) none:=fun ah J U=>h ah J fun θ gb=>⟨(U θ gb).1,(E6.1 (U θ gb).2).1⟩
theorem FK{s:List ai}{E:List (T×T)}(h:∀θ,dY s θ->¬il E θ):jb s E none:=fun ah J U=>absurd (U _ (wa J)).2 (h _ (U _ (wa J)).1)
theorem JS{s:List ai}(ag:eT s)(aQ:fP s):jb s [] (some s):=⟨⟨ag,aQ⟩,fun θ=>⟨fun h=>⟨h,E7 θ⟩,fun h=>h.1⟩⟩
def one(v:Int)(x:T)(w:Int):T:=if w=v then x else .var w
def pF(b:ai):List ai->List ai
 |[]=>[b]
 |c::s=>if b.v<c.v then b::c::s else c::pF b s
def na(s:List ai)(v:Int)(x:T):List ai:=pF ⟨v,x⟩ (s.map fun b=>⟨b.v,b.t.ap (one v x)⟩)
theorem Nl{b x:ai}:∀{s:List ai},x∈pF b s↔x=b\/x∈s
 |[]=>by simp[pF]
 |c::s=>by
  simp only[pF];split
  ·simp
  ·simp only[e7,Nl (s:=s)];constructor
   ·rintro(h|h|h)
    ·exact .inr (.inl h)
    ·exact .inl h
    ·exact .inr (.inr h)
   ·rintro(h|h|h)
    ·exact .inr (.inl h)
    ·exact .inl h
    ·exact .inr (.inr h)
theorem WQ{b:ai}:∀{s:List ai},(pF b s).length=s.length+1
 |[]=>rfl
 |c::s=>by simp only[pF];split<;>simp[WQ]
theorem Qv{b:ai}:∀{s:List ai},hf s->(∀c∈s,c.v≠b.v)->hf (pF b s)
 |[],_,_=>by simp[pF]
 |c::s,bm,au=>by
  have nO:=mU.1 bm;simp only[pF];split
  ·rename_i bz;refine mU.2 ⟨fun x ad=>?_,bm⟩;rcases e7.1 ad with rfl|ad
   ·exact bz
   ·have:=nO.1 x ad;omega
  ·rename_i wK;refine mU.2 ⟨fun x ad=>?_,Qv nO.2 fun c ar=>au c (by simp[ar])⟩;rcases Nl.1 ad with rfl|ad
   ·have:=au c Ψ;omega
   ·exact nO.1 x ad
theorem qV{s:List ai}{v:Int}{x:T}{b:ai}:b∈na s v x↔b=⟨v,x⟩\/ ∃c∈s,b=⟨c.v,c.t.ap (one v x)⟩:=by unfold na;rw[Nl,hG];refine or_congr Iff.rfl ⟨fun⟨c,J,U⟩=>⟨c,J,U.symm⟩,fun⟨c,J,U⟩=>⟨c,J,U.symm⟩⟩
theorem XV{v:Int}{x:T}{θ:Int->T}(h:θ v=x.ap θ)(t:T):(t.ap (one v x)).ap θ=t.ap θ:=by
 rw[x3];refine p1 fun w _=>?_;unfold one;split
 ·rename_i e;subst e;exact h.symm
 ·rfl
theorem FU{s:List ai}{v w:Int}{x:T}:df (na s v x) w=none↔w≠v/\df s w=none:=by
 rw[wk,wk];constructor
 ·intro h;exact⟨fun e=>h ⟨v,x⟩ (qV.2 (.inl rfl)) e.symm,fun b ab=>h ⟨b.v,b.t.ap (one v x)⟩ (qV.2 (.inr ⟨b,ab,rfl⟩))⟩
 ·rintro⟨J,U⟩ b ab;rcases qV.1 ab with rfl|⟨c,ar,rfl⟩
  ·exact fun e=>J e.symm
  ·exact U c ar
theorem O3{s:List ai}(ag:eT s){t:T}{w:Int}(h:(t.ap (aY s)).occ w=true):df s w=none:=by
 obtain⟨u,_,U⟩:=Bu.1 h;unfold aY at U;cases e:df s u with
 |none=>rw[e]at U;simp[T.occ]at U;subst U;exact e
 |some t=>rw[e]at U;exact ag.free _ (jI e) w U
theorem ao9{s:List ai}(ag:eT s){v:Int}{t:T}(ay:df s v=none)(aw:(t.ap (aY s)).occ v=false)(ug:∀w,t.ap (aY s)= .var w->w<v):eT (na s v (t.ap (aY s))):=by
 have ad:∀w,(t.ap (aY s)).occ w=true->df (na s v (t.ap (aY s))) w=none:=fun w hw=>FU.2 ⟨fun e=>(by subst e;rw[aw]at hw;cases hw),O3 ag hw⟩;refine⟨Qv ?_ ?_,fun b ab w hw=>?_,fun b ab w hw=>?_⟩
 ·rw[hf,List.pairwise_map];exact ag.asc
 ·intro c ar;obtain⟨b,ab,rfl⟩:=hG.1 ar;exact wk.1 ay b ab
 ·rcases qV.1 ab with rfl|⟨c,ar,rfl⟩
  ·exact ad w hw
  ·obtain⟨u,J,U⟩:=Bu.1 hw;unfold one at U;split at U
   ·exact ad w U
   ·rename_i cK;simp[T.occ]at U;subst U;exact FU.2 ⟨cK,ag.free c ar _ J⟩
 ·rcases qV.1 ab with rfl|⟨c,ar,rfl⟩
  ·exact ug w hw
  ·simp only at hw⊢;cases e:c.t with
   |var u=>
    have:=ag.ori c ar u e;rw[e]at hw;simp only[T.ap,one]at hw;split at hw
    ·rename_i aG;subst aG;have:=ug w hw;omega
    ·cases hw;exact this
   |_=>rw[e]at hw;simp[T.ap]at hw
theorem ZJ{s:List ai}{v:Int}{t:T}(θ:Int->T):dY (na s v (t.ap (aY s))) θ↔dY s θ/\il [(.var v,t)] θ:=by
 have aq:il [(.var v,t)] θ↔θ v=t.ap θ:=by simp[il,T.ap]
 rw[aq];constructor
 ·intro h;have bE:θ v=(t.ap (aY s)).ap θ:=h _ (qV.2 (.inl rfl));have J:dY s θ:=fun b ab=>by have:=h _ (qV.2 (.inr ⟨b,ab,rfl⟩));simp only at this;rw[XV bE]at this;exact this
  exact⟨J,by rw[Pb J t];exact bE⟩
 ·rintro⟨J,U⟩ b ab;have bE:θ v=(t.ap (aY s)).ap θ:=by rw[<-Pb J t];exact U
  rcases qV.1 ab with rfl|⟨c,ar,rfl⟩
  ·exact bE
  ·simp only;rw[XV bE];exact J c ar
open Classical in
theorem abv{s:List ai}(ag:eT s){v:Int}{t:T}(ay:df s v=none)(aw:(t.ap (aY s)).occ v=false)(ug:∀w,t.ap (aY s)= .var w->w<v):jb s [(.var v,t)] (if fP (na s v (t.ap (aY s)))then some (na s v (t.ap (aY s)))else none):=by
 have J:=ao9 ag ay aw ug;split
 ·rename_i aQ;exact⟨⟨J,aQ⟩,ZJ⟩
 ·rename_i aQ;exact fun ah U ao a6=>aQ (TX J U (fun θ gb=>(ZJ θ).2 (ao θ gb)) a6)
def hE(s:List ai):T->T
 | .var n=>aY s n
 |t=>t
def oy(s:List ai)(v:Int)(t:T):Option (List ai):=if(t.ap (aY s)).size<=5000/\(t.ap (aY s)).occ v=false/\s.length<400/\∀b∈s,(b.t.ap (one v (t.ap (aY s)))).size<=5000 then some (na s v (t.ap (aY s)))else none
def kq(rec:List ai->T->T->Option (Option (List ai)))(s:List ai):T->T->Option (Option (List ai))
 | .var i,.var j=>some (if i<j then oy s j (.var i)else if i=j then some s else oy s i (.var j))
 | .var i,y=>some (oy s i y)
 |x,.var j=>some (oy s j x)
 | .pair bC a2,.pair cg cc=>match rec s bC cg with
  |none=>none
  |some none=>some none
  |some (some s1)=>rec s1 a2 cc
 |x,y=>some (if x=y then some s else none)
def k4:Nat->List ai->T->T->Option (Option (List ai))
 |0,_,_,_=>none
 |n+1,s,a,b=>kq (k4 n) s (hE s a) (hE s b)
theorem apB{rec OF:List ai->T->T->Option (Option (List ai))}(h:∀s a b o,rec s a b=some o->OF s a b=some o){s:List ai}{x y:T}{o:Option (List ai)}(he:kq rec s x y=some o):kq OF s x y=some o:=by
 cases x<;>cases y<;>simp only[kq]at he⊢ <;>try exact he
 rename_i bC a2 cg cc;cases e:rec s bC cg with
 |none=>rw[e]at he;cases he
 |some gW=>
  rw[e]at he;rw[h _ _ _ _ e];cases gW with
  |none=>exact he
  |some s1=>exact h _ _ _ _ he
theorem Fc:∀{n m:Nat} {s:List ai} {a b:T} {o:Option (List ai)},n<=m->k4 n s a b=some o->k4 m s a b=some o
 |0,_,_,_,_,_,_,h=>by simp[k4]at h
 |n+1,0,_,_,_,_,hm,_=>Ω
 |n+1,m+1,s,a,b,o,hm,h=>by simp only[k4]at h⊢;exact apB (fun s a b o h=>Fc Ω h) h
theorem Lh{s:List ai}{v:Int}{x:T}:fP (na s v x)↔(x.size<=5000/\s.length<400/\∀b∈s,(b.t.ap (one v x)).size<=5000):=by
 have av:(na s v x).length=s.length+1:=by simp[na,WQ]
 unfold fP;rw[av];constructor
 ·rintro⟨J,U⟩;exact⟨U _ (qV.2 (.inl rfl)),Ω,fun b ab=>U _ (qV.2 (.inr ⟨b,ab,rfl⟩))⟩
 ·rintro⟨J,U,ao⟩;refine⟨Ω,fun b ab=>?_⟩;rcases qV.1 ab with rfl|⟨c,ar,rfl⟩
  ·exact J
  ·exact ao c ar
theorem abw{s:List ai}(ag:eT s){v:Int}{t:T}(ay:df s v=none)(cK:t.ap (aY s)≠ .var v)(ug:∀w,t.ap (aY s)= .var w->w<v):jb s [(.var v,t)] (oy s v t):=by
 unfold oy;cases aw:(t.ap (aY s)).occ v with
 |true=>
  rw[if_neg Ψ];refine FK fun θ J U=>?_;have ao:=(rR.1 U).1;simp only[T.ap]at ao;rw[Pb J t]at ao;have ae:(t.ap (aY s)).kind≠1:=by
   intro ae;cases e:t.ap (aY s)with
   |var w=>rw[e]at aw;simp[T.occ]at aw;subst aw;exact cK e
   |_=>rw[e]at ae;simp[T.kind]at ae
  have:=(y3 θ aw).2 ae;rw[<-ao]at this;omega
 |false=>
  have J:=abv ag ay aw ug;by_cases aQ:fP (na s v (t.ap (aY s)))
  ·rw[if_pos aQ]at J;rw[if_pos ⟨(Lh.1 aQ).1,rfl,(Lh.1 aQ).2⟩];exact J
  ·rw[if_neg aQ]at J;rw[if_neg fun h=>aQ (Lh.2 ⟨h.1,h.2.2⟩)];exact J
theorem aaS{s:List ai}(ag:eT s){t:T}{i:Int}(h:hE s t= .var i):df s i=none:=by
 cases t with
 |var n=>
  simp only[hE,aY]at h;cases e:df s n with
  |none=>rw[e]at h;simp at h;subst h;exact e
  |some u=>rw[e]at h;simp at h;subst h;exact ag.free _ (jI e) i (by simp[T.occ])
 |_=>simp[hE]at h
theorem PV{s:List ai}{θ:Int->T}(h:dY s θ)(t:T):(hE s t).ap θ=t.ap θ:=by
 cases t with
 |var n=>
  simp only[hE,T.ap,aY];cases e:df s n with
  |none=>rfl
  |some u=>exact(h _ (jI e)).symm
 |_=>rfl
theorem aaU{s:List ai}(ag:eT s)(t:T):(hE s t).ap (aY s)=t.ap (aY s):=PV (wa ag) t
def qN(V:List Int)(t:T):Prop:= ∀w,t.occ w=true->w∈V
def yL(V:List Int)(s:List ai):Prop:= ∀b∈s,b.v∈V/\qN V b.t
def Ab(V:List Int)(s:List ai):Nat:=(V.filter fun v=>(df s v).isNone).length
theorem TV{α:Type}{p q:α->Bool}{v:α}:∀{V:List α},(∀x∈V,q x=true->p x=true)->v∈V->p v=true->q v=false->(V.filter q).length<(V.filter p).length
 |[],_,h,_,_=>by simp at h
 |x::V,h,ay,bD,bt=>by
  have hle:∀W:List α,(∀x∈W,q x=true->p x=true)->(W.filter q).length<=(W.filter p).length:=by
   intro W;induction W with
   |nil=>intro _;simp
   |cons y W bR=>intro C9;have:=bR fun x ad=>C9 x (by simp[ad]);have aC:=C9 y Ψ;simp only[List.filter_cons];cases e:q y<;>cases aG:p y<;>simp_all<;>omega
  simp only[List.filter_cons];rcases e7.1 ay with rfl|ay
  ·have:=hle V fun x ad=>h x (by simp[ad]);simp[bD,bt];omega
  ·have:=TV (fun x ad=>h x (o1 _ ad)) ay bD bt;have ad:=h x Ψ;cases e:q x<;>cases aG:p x<;>simp_all<;>omega
theorem acS{V:List Int}{s:List ai}{v:Int}{x:T}(ay:v∈V)(au:df s v=none):Ab V (na s v x)<Ab V s:=by
 unfold Ab;refine TV (v:=v) (fun w _ h=>?_) ay (by simp[au]) ?_
 ·rw[Option.isNone_iff_eq_none,FU]at h;simp[h.2]
 ·cases e:df (na s v x) v with
  |none=>exact absurd rfl (FU.1 e).1
  |some _=>rfl
theorem VU{V:List Int}{s:List ai}(h:yL V s){t:T}(aH:qN V t):qN V (t.ap (aY s)):=fun w hw=>by
 obtain⟨u,J,U⟩:=Bu.1 hw;unfold aY at U;cases e:df s u with
 |none=>rw[e]at U;simp[T.occ]at U;subst U;exact aH _ J
 |some x=>rw[e]at U;exact(h _ (jI e)).2 w U
theorem ajs{V:List Int}{s:List ai}(h:yL V s){v:Int}{x:T}(ay:v∈V)(ad:qN V x):yL V (na s v x):=fun b ab=>by
 rcases qV.1 ab with rfl|⟨c,ar,rfl⟩
 ·exact⟨ay,ad⟩
 ·refine⟨(h c ar).1,fun w hw=>?_⟩;obtain⟨u,J,U⟩:=Bu.1 hw;unfold one at U;split at U
  ·exact ad w U
  ·simp[T.occ]at U;subst U;exact(h c ar).2 _ J
theorem VV{V:List Int}{s:List ai}(h:yL V s){t:T}(aH:qN V t):qN V (hE s t):=by
 cases t with
 |var n=>have:=VU h aH;simpa[hE,T.ap]using this
 |_=>exact aH
def Cv(V:List Int)(s:List ai)(a b:T)(o:Option (List ai)):Prop:=jb s [(a,b)] o/\∀ah,o=some ah->yL V ah/\(ah=s\/Ab V ah<Ab V s)
theorem Fe{V:List Int}{s:List ai}(ag:eT s)(gN:yL V s){v:Int}{t a b:T}(ay:v∈V)(aH:qN V t)(au:df s v=none)(cK:t.ap (aY s)≠ .var v)(ug:∀w,t.ap (aY s)= .var w->w<v)(ar:∀θ,dY s θ->(θ v=t.ap θ↔a.ap θ=b.ap θ)):Cv V s a b (oy s v t):=by
 refine⟨zQ (fun θ=>?_) (abw ag au cK ug),fun ah h=>?_⟩
 ·refine and_congr_right fun h=>?_;rw[rR,rR];simp only[T.ap,ar θ h]
 ·unfold oy at h;split at h
  ·cases h;exact⟨ajs gN ay (VU gN aH),.inr (acS ay au)⟩
  ·cases h
theorem BX{s:List ai}{i:Int}(h:df s i=none):aY s i= .var i:=by simp[aY,h]
theorem Z6(V:List Int)(k:Nat):∀(m:Nat) (s:List ai) (a b:T),eT s->fP s->yL V s->qN V a->qN V b->Ab V s=k->(a.ap (aY s)).size+(b.ap (aY s)).size=m->
  ∃n o,k4 n s a b=some o/\Cv V s a b o:=by
 induction k using qA with
 |ind k MB=>
 intro m;induction m using qA with
 |ind m A5=>
 intro s a b ag aQ gN bm ab ae hm;have ad:=VV gN bm;have aC:=VV gN ab;have Pn:=aaU ag a;have Po:=aaU ag b;have u1:=fun θ (h:dY s θ)=>PV h a;have ov:=fun θ (h:dY s θ)=>PV h b;have rv:=fun i=>aaS ag (t:=a) (i:=i);have Lm:=fun i=>aaS ag (t:=b) (i:=i);have key:∀(rec:List ai->T->T->Option (Option (List ai))) (o:Option (List ai)),kq rec s (hE s a) (hE s b)=some o->(∀bC a2 cg cc,hE s a= .pair bC a2->hE s b= .pair cg cc->Cv V s a b o)->Cv V s a b o:=by
  intro rec o he bD;cases ex:hE s a with
  |var i=>
   have Ap:=rv i ex;have rf:=fun θ h=>(u1 θ h).symm.trans (by rw[ex]);cases ir:hE s b with
   |var j=>
    have yf:=Lm j ir;have p3:=fun θ h=>(ov θ h).symm.trans (by rw[ir]);rw[ex,ir]at he;simp only[kq]at he;have hi:i∈V:=by rw[ex]at ad;exact ad i (by simp[T.occ])
    have af:j∈V:=by rw[ir]at aC;exact aC j (by simp[T.occ])
    rcases Int.lt_trichotomy i j with h|h|h
    ·rw[if_pos h]at he;cases he;refine Fe ag gN af (by rw[ex]at ad;exact ad) yf (by simp[T.ap,BX Ap];omega) (fun w hw=>by simp[T.ap,BX Ap]at hw;omega) fun θ gb=>?_;rw[rf θ gb,p3 θ gb];simp only[T.ap];exact⟨Eq.symm,Eq.symm⟩
    ·subst h;rw[if_neg Ω,if_pos rfl]at he;cases he;refine⟨⟨⟨ag,aQ⟩,fun θ=>⟨fun h=>⟨h,rR.2 ⟨?_,E7 θ⟩⟩,fun h=>h.1⟩⟩,fun ah e=>by cases e;exact⟨gN,.inl rfl⟩⟩;simp only;rw[rf θ h,p3 θ h]
    ·rw[if_neg Ω,if_neg Ω]at he;cases he;refine Fe ag gN hi (by rw[ir]at aC;exact aC) Ap (by simp[T.ap,BX yf];omega) (fun w hw=>by simp[T.ap,BX yf]at hw;omega) fun θ gb=>?_;rw[rf θ gb,p3 θ gb];simp only[T.ap]
   |_=>have p3:=fun θ h=>(ov θ h).symm.trans (by rw[ir]);rw[ex,ir]at he;simp only[kq]at he;cases he;refine Fe ag gN (by rw[ex]at ad;exact ad i (by simp[T.occ])) (by rw[ir]at aC;exact aC) Ap (by simp[T.ap]) (fun w hw=>by simp[T.ap]at hw) fun θ gb=>?_;rw[rf θ gb,p3 θ gb];simp only[T.ap]
  |pair bC a2=>
   cases ir:hE s b with
   |pair cg cc=>exact bD bC a2 cg cc ex ir
   |var j=>have yf:=Lm j ir;have rf:=fun θ h=>(u1 θ h).symm.trans (by rw[ex]);have p3:=fun θ h=>(ov θ h).symm.trans (by rw[ir]);rw[ex,ir]at he;simp only[kq]at he;cases he;refine Fe ag gN (by rw[ir]at aC;exact aC j (by simp[T.occ])) (by rw[ex]at ad;exact ad) yf (by simp[T.ap]) (fun w hw=>by simp[T.ap]at hw) fun θ gb=>?_;rw[rf θ gb,p3 θ gb];simp only[T.ap];exact⟨Eq.symm,Eq.symm⟩
   |_=>have rf:=fun θ h=>(u1 θ h).symm.trans (by rw[ex]);have p3:=fun θ h=>(ov θ h).symm.trans (by rw[ir]);rw[ex,ir]at he;simp only[kq]at he;simp at he;subst he;refine⟨FK fun θ J U=>?_,fun ah e=>by cases e⟩;have:=(rR.1 U).1;simp only at this;rw[rf θ J,p3 θ J]at this;simp[T.ap]at this
  |_=>
   have rf:=fun θ h=>(u1 θ h).symm.trans (by rw[ex]);cases ir:hE s b with
   |var j=>have yf:=Lm j ir;have p3:=fun θ h=>(ov θ h).symm.trans (by rw[ir]);rw[ex,ir]at he;simp only[kq]at he;cases he;refine Fe ag gN (by rw[ir]at aC;exact aC j (by simp[T.occ])) (by rw[ex]at ad;exact ad) yf (by simp[T.ap]) (fun w hw=>by simp[T.ap]at hw) fun θ gb=>?_;rw[rf θ gb,p3 θ gb];simp only[T.ap];exact⟨Eq.symm,Eq.symm⟩
   |_=>
    have p3:=fun θ h=>(ov θ h).symm.trans (by rw[ir]);rw[ex,ir]at he;simp only[kq,dE]at he;split at he
    ·rename_i e;subst he;refine⟨⟨⟨ag,aQ⟩,fun θ=>⟨fun h=>⟨h,rR.2 ⟨?_,E7 θ⟩⟩,fun h=>h.1⟩⟩,fun ah e=>by cases e;exact⟨gN,.inl rfl⟩⟩;simp only;rw[rf θ h,p3 θ h];try rw[e]
    ·rename_i e;subst he;refine⟨FK fun θ J U=>?_,fun ah e=>by cases e⟩;have:=(rR.1 U).1;simp only at this;rw[rf θ J,p3 θ J]at this;simp[T.ap]at this e;try exact e this
 by_cases Hg:∃bC a2 cg cc,hE s a= .pair bC a2/\hE s b= .pair cg cc
 ·obtain⟨bC,a2,cg,cc,ex,ir⟩:=Hg;have ep:(bC.ap (aY s)).size+(cg.ap (aY s)).size<m/\(a2.ap (aY s)).size+(cc.ap (aY s)).size<m:=by rw[ex]at Pn;rw[ir]at Po;simp only[T.ap]at Pn Po;rw[<-hm,<-Pn,<-Po];simp only[T.size];omega
  have lL:qN V bC:=fun w hw=>by rw[ex]at ad;exact ad w (by simp[T.occ,hw])
  have qH:qN V a2:=fun w hw=>by rw[ex]at ad;exact ad w (by simp[T.occ,hw])
  have l4:qN V cg:=fun w hw=>by rw[ir]at aC;exact aC w (by simp[T.occ,hw])
  have pg:qN V cc:=fun w hw=>by rw[ir]at aC;exact aC w (by simp[T.occ,hw])
  have UT:∀θ,(dY s θ/\il ([(bC,cg)]++[(a2,cc)]) θ)↔(dY s θ/\il [(a,b)] θ):=fun θ=>and_congr_right fun h=>by simp only[List.singleton_append,rR,E7,and_true];rw[<-u1 θ h,<-ov θ h,ex,ir];simp[T.ap]
  obtain⟨iJ,gW,aq,c1⟩:=A5 _ ep.1 s bC cg ag aQ gN lL l4 ae rfl;cases gW with
  |none=>refine⟨iJ+1,none,?_,zQ UT (FL _ c1.1),fun ah e=>by cases e⟩;simp only[k4,ex,ir,kq,aq]
  |some s1=>
   obtain⟨v1,v2⟩:=c1.2 s1 rfl;have DD:∃gE gR,k4 gE s1 a2 cc=some gR/\Cv V s1 a2 cc gR:=by
    rcases v2 with rfl|v2
    ·exact A5 _ ep.2 _ a2 cc ag aQ gN qH pg ae rfl
    ·exact MB _ Ω _ s1 a2 cc c1.1.1.1 c1.1.1.2 v1 qH pg rfl rfl
   obtain⟨gE,gR,aG,dv⟩:=DD;refine⟨max iJ gE+1,gR,?_,zQ UT (JR c1.1 dv.1),fun ah e=>?_⟩
   ·simp only[k4,ex,ir,kq,Fc (Nat.le_max_left iJ gE) aq];exact Fc (Nat.le_max_right iJ gE) aG
   ·obtain⟨fx,ee⟩:=dv.2 ah e;refine⟨fx,?_⟩;rcases v2 with rfl|v2
    ·exact ee
    ·rcases ee with rfl|ee
     ·exact .inr v2
     ·exact .inr Ω
 ·have Vn:∀bC a2 cg cc,hE s a= .pair bC a2->hE s b= .pair cg cc->eB:=fun bC a2 cg cc J U=>Hg ⟨bC,a2,cg,cc,J,U⟩;have:∃o,kq (k4 0) s (hE s a) (hE s b)=some o:=by cases ex:hE s a<;>cases ir:hE s b<;>simp only[kq]<;>first|exact⟨_,rfl⟩|exact(Vn _ _ _ _ ex ir).elim
  obtain⟨o,aw⟩:=this;exact⟨1,o,aw,key _ o aw fun bC a2 cg cc J U=>(Vn bC a2 cg cc J U).elim⟩
def tg{α:Type}(k:Int):List (Int×α)->Option α
 |[]=>none
 |(i,v)::r=>if k=i then some v else tg k r
def e2{α:Type}(k:Int)(v:α):List (Int×α)->List (Int×α)
 |[]=>[(k,v)]
 |(i,w)::r=>if k=i then(i,v)::r else(i,w)::e2 k v r
def cC{α:Type}(m:List (Int×α)):List Int:=m.map (·.1)
theorem oc{α:Type}(k:Int)(v:α)(j:Int):∀m:List (Int×α),tg j (e2 k v m)=if j=k then some v else tg j m
 |[]=>by simp only[e2,tg]
 |(i,w)::r=>by
  simp only[e2];by_cases h:k=i
  ·subst h;by_cases U:j=k<;>simp[tg,U]
  ·by_cases U:j=i
   ·subst U;have:¬j=k:=fun e=>h e.symm;simp[tg,h,this]
   ·simp[tg,h,U,oc k v j r]
theorem Jo{α:Type}{k:Int}:∀{m:List (Int×α)},(tg k m).isSome=true↔k∈cC m
 |[]=>by simp[tg,cC]
 |(i,w)::r=>by
  simp only[tg,cC,ht,e7];by_cases h:k=i
  ·simp[h]
  ·simp only[h,if_false,false_or];exact Jo
theorem apt{α:Type}{k:Int}{m:List (Int×α)}:tg k m=none↔k∉cC m:=by rw[<-Jo];cases tg k m<;>simp
theorem D3{α:Type}{k:Int}{v:α}:∀{m:List (Int×α)},k∈cC m->cC (e2 k v m)=cC m
 |[],h=>by simp[cC]at h
 |(i,w)::r,h=>by
  simp only[e2];by_cases e:k=i
  ·simp[e,cC]
  ·rw[if_neg e];have cd:k∈cC r:=by simpa[cC,e]using h
   have:=D3 (v:=v) cd;simp only[cC]at this⊢;simp[this]
theorem Wx{α:Type}{k:Int}{v:α}:∀{m:List (Int×α)},k∉cC m->cC (e2 k v m)=cC m++[k]
 |[],h=>by simp[cC,e2]
 |(i,w)::r,h=>by have e:¬k=i:=fun e=>h (by simp[cC,e]);have cd:k∉cC r:=fun ae=>h (by simp[cC]at ae⊢;exact .inr ae);have:=Wx (v:=v) cd;simp only[e2,if_neg e];simp only[cC]at this⊢;simp[this]
structure bB where
 up:List (Int×Int)
 shape:List (Int×T)
 shaped:List (Int×Bool)
 color:List (Int×Int)
 size:List (Int×Int)
 full:List (Int×T)
def bB.shd(c:bB)(x:Int):Bool:=(tg x c.shaped).getD false
def bB.shp(c:bB)(x:Int):T:=(tg x c.shape).getD .nil
def bB.col(c:bB)(x:Int):Int:=(tg x c.color).getD 0
def bB.sz(c:bB)(x:Int):Int:=(tg x c.size).getD 0
def jn(m:List (Int×Int))(v:Int):Int:=(tg v m).getD 0
def xy:Nat->List (Int×Int)->Int->Option (Int×List (Int×Int))
 |0,_,_=>none
 |n+1,m,v=>if jn m v=v then some (v,m)else xy n (e2 v (jn m (jn m v)) m) (jn (e2 v (jn m (jn m v)) m) v)
def zR(v:Int)(m:List (Int×Int)):List (Int×Int):=if(tg v m).isSome then m else e2 v v m
def rt(c:bB)(v:Int):Option (Int×bB):=(xy (v.toNat+1) (zR v c.up) v).map fun p=>(p.1,{c with up:=p.2})
def T.foldO{α:Type}(f:Int->α->Option α):T->α->Option α
 | .var n,a=>f n a
 | .pair x y,a=>(x.foldO f a).bind (y.foldO f)
 |_,a=>some a
def T.mapO{α:Type}(f:Int->α->Option (T×α)):T->α->Option (T×α)
 | .var n,a=>f n a
 | .pair x y,a=>(x.mapO f a).bind fun p=>(y.mapO f p.2).map fun q=>(.pair p.1 q.1,q.2)
 |t,a=>some (t,a)
def T.sizeO{α:Type}(f:Int->α->Option (Int×α)):T->α->Option (Int×α)
 | .var n,a=>(f n a).map fun p=>(if 5001<p.1 then 5001 else p.1,p.2)
 | .pair x y,a=>(x.sizeO f a).bind fun p=>if 5000<p.1 then some p else(y.sizeO f p.2).map fun q=>(if 5001<1+p.1+q.1 then 5001 else 1+p.1+q.1,q.2)
 |_,a=>some (1,a)
def Bk(t:T)(c:bB):Option bB:=t.foldO (fun v c=>(rt c v).map (·.2)) c
structure uT where
 c:bB
 seen:List (Int×Bool)
 found:Bool
def xx(rec:T->bB->List (Int×Bool)->Option uT)(x:Int)(v:Int)(a:uT):Option uT:=
 (rt a.c v).bind fun p=>if a.found=true\/p.1=x then some ⟨p.2,a.seen,true⟩
  else if(tg p.1 a.seen).getD false=false/\p.2.shd p.1=true then rec (p.2.shp p.1) p.2 (e2 p.1 true a.seen)
  else some ⟨p.2,a.seen,a.found⟩
def qt:Nat->Int->T->bB->List (Int×Bool)->Option uT
 |0,_,_,_,_=>none
 |n+1,x,t,c,seen=>t.foldO (xx (qt n x) x) ⟨c,seen,false⟩
def bB.know(c:bB)(x:Int)(t:T):bB:={c with shape:=e2 x t c.shape,shaped:=e2 x true c.shaped}
def vE(n:Nat)(x:Int)(t:T)(c:bB):Option (Bool×bB):=(qt n x t (c.know x t) []).map fun a=>(!a.found,a.c)
def bB.join(c:bB)(x y:Int):bB:={c with up:=e2 y x c.up}
def sg(rec:T->T->bB->Option (Bool×bB))(n:Nat)(x y:Int)(c:bB):Option (Bool×bB):=
 if c.shd y=false then
  (if c.shd x=false then some (true,c)else(qt n x (c.shp x) c []).map fun a=>(!a.found,a.c))
 else if c.shd x=false then vE n x (c.shp y) c
 else(qt n x (c.shp y) c []).bind fun a=>if a.found=true then some (false,a.c)else
  (qt n x (a.c.shp x) a.c []).bind fun b=>if b.found=true then some (false,b.c)else rec (b.c.shp x) (c.shp y) b.c
def gM:Nat->T->T->bB->Option (Bool×bB)
 |0,_,_,_=>none
 |n+1,.var i,.var j,c=>(rt c i).bind fun p=>(rt p.2 j).bind fun q=>if p.1=q.1 then some (true,q.2)else if q.1<p.1 then sg (gM n) n q.1 p.1 (q.2.join q.1 p.1)else sg (gM n) n p.1 q.1 (q.2.join p.1 q.1)
 |n+1,.var i,b,c=>(rt c i).bind fun p=>if p.2.shd p.1=false then vE n p.1 b p.2 else gM n (p.2.shp p.1) b p.2
 |n+1,a,.var j,c=>gM n (.var j) a c
 |n+1,.pair bC a2,.pair cg cc,c=>(gM n bC cg c).bind fun p=>if p.1=true then gM n a2 cc p.2 else some (false,p.2)
 |_+1,a,b,c=>some (decide (a=b),c)
structure jX (m:List (Int×Int)) (ρ:Int->Int):Prop where
 up:∀v u,tg v m=some u->(0<=u/\u<=v/\u∈cC m)/\ρ u=ρ v/\(ρ v=v↔u=v)
 no:∀v,v∉cC m->ρ v=v
theorem jX.get{m:List (Int×Int)}{ρ:Int->Int}(h:jX m ρ){v:Int}(ay:v∈cC m):∃u,tg v m=some u/\jn m v=u:=by have:=Jo.2 ay;obtain⟨u,hu⟩:=fE.1 this;exact⟨u,hu,by simp[jn,hu]⟩
theorem jX.root{m:List (Int×Int)}{ρ:Int->Int}(h:jX m ρ):∀(n:Nat) (v:Int),v.toNat<=n->(ρ v<=v/\ρ (ρ v)=ρ v/\(v∈cC m->ρ v∈cC m/\0<=ρ v)):=by
 intro n;induction n using qA with
 |ind n bR=>
 intro v au;by_cases ay:v∈cC m
 ·obtain⟨u,J,_⟩:=h.get ay;obtain⟨⟨bC,a2,a3⟩,a4,a5⟩:=h.up v u J;by_cases e:u=v
  ·have:=a5.2 e;subst e;rw[this];exact⟨Ω,this,fun _=>⟨a3,bC⟩⟩
  ·obtain⟨cg,cc,gq⟩:=bR (u.toNat) Ω u Ω;rw[<-a4];exact⟨Ω,cc,fun _=>gq a3⟩
 ·have:=h.no v ay;rw[this];exact⟨Ω,this,fun h=>absurd h ay⟩
theorem jX.le{m:List (Int×Int)}{ρ:Int->Int}(h:jX m ρ)(v:Int):ρ v<=v:=(h.root v.toNat v (eu _)).1
theorem jX.idem{m:List (Int×Int)}{ρ:Int->Int}(h:jX m ρ)(v:Int):ρ (ρ v)=ρ v:=(h.root v.toNat v (eu _)).2.1
theorem jX.mem{m:List (Int×Int)}{ρ:Int->Int}(h:jX m ρ){v:Int}(ay:v∈cC m):ρ v∈cC m/\0<=ρ v:=(h.root v.toNat v (eu _)).2.2 ay
theorem ZA{ρ:Int->Int}:∀(n:Nat) (m:List (Int×Int)) (v:Int),jX m ρ->v∈cC m->v.toNat<n->∃ic,xy n m v=some (ρ v,ic)/\jX ic ρ/\cC ic=cC m
 |0,_,_,_,_,au=>Ω
 |n+1,m,v,h,ay,au=>by
  obtain⟨u,J,U⟩:=h.get ay;obtain⟨⟨bC,a2,a3⟩,a4,a5⟩:=h.up v u J;simp only[xy,U];by_cases e:u=v
  ·rw[if_pos e];have:=a5.2 e;exact⟨m,by rw[this],h,rfl⟩
  ·rw[if_neg e];obtain⟨x,g1,g2⟩:=h.get a3;obtain⟨⟨cg,cc,gq⟩,u2,QC⟩:=h.up u x g1;rw[g2];have ae:=D3 (v:=x) ay;have mG:jX (e2 v x m) ρ:=by
    refine⟨fun w y hw=>?_,fun w hw=>h.no w (by rw[ae]at hw;exact hw)⟩;rw[oc]at hw;rw[ae];by_cases ew:w=v
    ·subst ew;rw[if_pos rfl]at hw;cases hw;refine⟨⟨cg,Ω,gq⟩,by rw[u2,a4],⟨fun aK=>absurd (a5.1 aK) e,fun ad=>?_⟩⟩;have:u=w:=Ω
     exact absurd this e
    ·rw[if_neg ew]at hw;exact h.up w y hw
   have ai5:jn (e2 v x m) v=x:=by simp[jn,oc]
   rw[ai5];obtain⟨ic,b0,cu,dg⟩:=ZA n (e2 v x m) x mG (by rw[ae];exact gq) Ω;exact⟨ic,by rw[b0,u2,a4],cu,by rw[dg,ae]⟩
structure ja (ρ:Int->Int) (c cq:bB):Prop where
 ru:jX cq.up ρ
 keys:cC cq.up=cC c.up
 eq:cq={c with up:=cq.up}
theorem ja.refl{ρ:Int->Int}{c:bB}(h:jX c.up ρ):ja ρ c c:=⟨h,rfl,rfl⟩
theorem ja.trans{ρ:Int->Int}{a b c:bB}(h:ja ρ a b)(k:ja ρ b c):ja ρ a c:=⟨k.ru,k.keys.trans h.keys,by rw[k.eq,h.eq]⟩
theorem ja.shd{ρ:Int->Int}{c cq:bB}(h:ja ρ c cq)(x:Int):cq.shd x=c.shd x:=by rw[h.eq];rfl
theorem ja.shp{ρ:Int->Int}{c cq:bB}(h:ja ρ c cq)(x:Int):cq.shp x=c.shp x:=by rw[h.eq];rfl
theorem uF{ρ:Int->Int}{c:bB}{v:Int}(h:jX c.up ρ)(ay:v∈cC c.up):∃cq,rt c v=some (ρ v,cq)/\ja ρ c cq:=by
 have bm:zR v c.up=c.up:=by simp[zR,Jo.2 ay]
 obtain⟨ic,J,U,ao⟩:=ZA (v.toNat+1) c.up v h ay Ω;exact⟨{c with up:=ic},by simp[rt,bm,J],⟨U,ao,rfl⟩⟩
theorem aoA{ρ:Int->Int}{c:bB}{v:Int}(h:jX c.up ρ)(bE:0<=v)(ay:v∉cC c.up):rt c v=some (v,{c with up:=e2 v v c.up})/\jX (e2 v v c.up) ρ/\cC (e2 v v c.up)=cC c.up++[v]:=by
 have au:=apt.2 ay;have ae:=Wx (v:=v) ay;refine⟨?_,⟨fun w u hw=>?_,fun w hw=>h.no w fun hm=>hw (by rw[ae];simp[hm])⟩,ae⟩
 ·simp[rt,zR,au,xy,jn,oc]
 ·rw[oc]at hw;rw[ae];by_cases e:w=v
  ·subst e;rw[if_pos rfl]at hw;cases hw;exact⟨⟨bE,Ω,Ψ⟩,rfl,⟨fun _=>rfl,fun _=>h.no _ ay⟩⟩
  ·rw[if_neg e]at hw;obtain⟨⟨bC,a2,a3⟩,a4⟩:=h.up w u hw;exact⟨⟨bC,a2,by simp[a3]⟩,a4⟩
def bB.ph(c:bB)(x:Int):Option T:=if c.shd x then some (c.shp x)else none
theorem ja.ph{ρ:Int->Int}{c cq:bB}(h:ja ρ c cq):cq.ph=c.ph:=by funext x;simp only[bB.ph,h.shd,h.shp]
def kt(ph:Int->Option T)(ρ:Int->Int)(θ:Int->T):Prop:=(∀v,θ v=θ (ρ v))/\∀x t,ρ x=x->ph x=some t->θ x=t.ap θ
def jq(ph:Int->Option T)(ρ:Int->Int)(z u:Int):Prop:=ρ z=z/\∃t w,ph z=some t/\t.occ w=true/\ρ w=u
inductive nE (E:Int->Int->Prop):Int->Int->Prop
 |refl (a:Int):nE E a a
 |step {a b c:Int}:E a b->nE E b c->nE E a c
def o8(V:List Int)(ph:Int->Option T):Prop:= ∀x t,ph x=some t->t.kind≠1/\(∀w,t.occ w=true->w∈V)/\x∈V
def Js(V:List Int)(ph:Int->Option T)(seen:List (Int×Bool)):Nat:=(V.filter fun v=>(ph v).isSome&& !((tg v seen).getD false)).length
def nn(seen:List (Int×Bool))(z:Int):Prop:=(tg z seen).getD false=true
structure abp (V:List Int) (ph:Int->Option T) (ρ:Int->Int) (x:Int) (occ:Int->Prop) (a bn:uT):Prop where
 sm:ja ρ a.c bn.c
 sub:∀z,nn a.seen z->nn bn.seen z
 yes:bn.found=true->a.found=true\/ ∃w,occ w/\nE (jq ph ρ) (ρ w) x
 kept:a.found=true->bn.found=true
 no:bn.found=false->(∀w,occ w->ρ w≠x/\((ph (ρ w)).isSome=true->nn bn.seen (ρ w)))/\∀r,nn bn.seen r->¬nn a.seen r->∀u,jq ph ρ r u->u≠x/\((ph u).isSome=true->nn bn.seen u)
theorem GA{α:Type}{p q:α->Bool}:∀{V:List α},(∀x∈V,q x=true->p x=true)->(V.filter q).length<=(V.filter p).length
 |[],_=>by simp
 |y::V,h=>by have:=GA (p:=p) (q:=q) (V:=V) fun x ad=>h x (by simp[ad]);have aC:=h y Ψ;simp only[List.filter_cons];cases e:q y<;>cases aG:p y<;>simp_all<;>omega
theorem GB{α:Type}{p q:α->Bool}{v:α}:∀{V:List α},(∀x∈V,q x=true->p x=true)->v∈V->p v=true->q v=false->(V.filter q).length<(V.filter p).length
 |[],_,h,_,_=>by simp at h
 |x::V,h,ay,bD,bt=>by
  have hle:=GA (p:=p) (q:=q) (V:=V) fun x ad=>h x (o1 _ ad);simp only[List.filter_cons];rcases e7.1 ay with rfl|ay
  ·simp[bD,bt];omega
  ·have:=GB (fun x ad=>h x (o1 _ ad)) ay bD bt;have ad:=h x Ψ;cases e:q x<;>cases aG:p x<;>simp_all<;>omega
theorem apE{V:List Int}{ph:Int->Option T}{s ah:List (Int×Bool)}(h:∀z,nn s z->nn ah z):Js V ph ah<=Js V ph s:=
 GA fun x _ ad=>by
  simp only[cr,pQ]at ad⊢;refine⟨ad.1,?_⟩;cases e:(tg x s).getD false with
  |false=>rfl
  |true=>have:=h x e;unfold nn at this;rw[ad.2]at this;cases this
theorem MC{s:List (Int×Bool)}{r z:Int}:nn (e2 r true s) z↔z=r\/nn s z:=by unfold nn;rw[oc];by_cases h:z=r<;>simp[h]
theorem aop{V:List Int}{ph:Int->Option T}{ρ:Int->Int}{x:Int}(gV:o8 V ph)(k:Nat):∀(t:T) (a:uT),jX a.c.up ρ->cC a.c.up=V->a.c.ph=ph->(∀w,t.occ w=true->w∈V)->Js V ph a.seen<=k->
  ∃N bn,(∀n,N<=n->t.foldO (xx (qt n x) x) a=some bn)/\abp V ph ρ x (fun w=>t.occ w=true) a bn:=by
 induction k using qA with
 |ind k MB=>
 intro t;induction t with
 |var v=>
  intro a mG ae jM aH yI;obtain⟨b0,J,U⟩:=uF mG (by rw[ae];exact aH v (by simp[T.occ]));have iG:b0.shd (ρ v)=(ph (ρ v)).isSome:=by rw[U.shd,<-jM];simp only[bB.ph];split<;>simp_all
  by_cases aQ:a.found=true\/ρ v=x
  ·refine⟨0,⟨b0,a.seen,true⟩,fun n _=>by simp[T.foldO,xx,J,aQ],U,fun z ba=>ba,fun _=>?_,fun _=>rfl,fun h=>by cases h⟩;rcases aQ with aQ|aQ
   ·exact .inl aQ
   ·exact .inr ⟨v,by simp[T.occ],by rw[aQ];exact .refl _⟩
  ·by_cases ag:(tg (ρ v) a.seen).getD false=false/\b0.shd (ρ v)=true
   ·have Hf:ph (ρ v)=some (b0.shp (ρ v)):=by rw[<-jM];simp only[bB.ph,U.shp];rw[if_pos (by rw[<-U.shd];exact ag.2)]
    obtain⟨g1,g2,g3⟩:=gV _ _ Hf;have bz:Js V ph (e2 (ρ v) true a.seen)<k:=by
     refine Nat.lt_of_lt_of_le (GB (v:=ρ v) (fun z _ ba=>?_) g3 ?_ ?_) yI
     ·simp only[cr,pQ]at ba⊢;refine⟨ba.1,?_⟩;rw[oc]at ba;by_cases e:z=ρ v
      ·subst e;exact ag.1
      ·rw[if_neg e]at ba;exact ba.2
     ·simp[Hf,ag.1]
     ·simp[oc]
    obtain⟨N,bn,aq,c1⟩:=MB _ bz (b0.shp (ρ v)) ⟨b0,e2 (ρ v) true a.seen,false⟩ U.ru (by rw[U.keys];exact ae) (by rw[U.ph];exact jM) g2 (eu _);refine⟨N+1,bn,fun n au=>?_,U.trans c1.sm,fun z ba=>c1.sub z (MC.2 (.inr ba)),fun aC=>?_,fun h=>absurd (.inl h) aQ,fun cB=>?_⟩
    ·obtain⟨n',rfl⟩:∃n',n=n'+1:=⟨n-1,Ω⟩;simp only[T.foldO,xx,J,ij,if_neg aQ,if_pos ag,qt];exact aq n' Ω
    ·rcases c1.yes aC with h|⟨w,a1,bp⟩
     ·cases h
     ·exact .inr ⟨v,by simp[T.occ],.step ⟨by rw[jX.idem mG],_,w,Hf,a1,rfl⟩ bp⟩
    ·obtain⟨a1,bp⟩:=c1.no cB;have jw:nn bn.seen (ρ v):=c1.sub _ (MC.2 (.inl rfl));refine⟨fun w hw=>?_,fun r aK dp u hu=>?_⟩
     ·simp[T.occ]at hw;subst hw;exact⟨fun e=>aQ (.inr e),fun _=>jw⟩
     ·by_cases rq:r=ρ v
      ·subst rq;obtain⟨_,dO,w,lD,z2,rfl⟩:=hu;rw[Hf]at lD;cases lD;exact a1 w z2
      ·exact bp r aK (fun h=>(MC.1 h).elim rq dp) u hu
   ·have Dj:a.found=false:=by cases e:a.found with
     |false=>rfl
     |true=>exact absurd (.inl e) aQ
    refine⟨0,⟨b0,a.seen,a.found⟩,fun n _=>by simp only[T.foldO,xx,J,ij,if_neg aQ,if_neg ag],U,fun z ba=>ba,fun h=>.inl h,fun h=>h,fun _=>⟨fun w hw=>?_,fun r J U=>absurd J U⟩⟩;simp[T.occ]at hw;subst hw;refine⟨fun e=>aQ (.inr e),fun bD=>?_⟩;unfold nn;cases e:(tg (ρ v) a.seen).getD false with
    |true=>rfl
    |false=>exact absurd ⟨e,by rw[iG];exact bD⟩ ag
 |pair p q ajp ajq=>
  intro a mG ae jM aH yI;obtain⟨hZ,bC,aq,c1⟩:=ajp a mG ae jM (fun w hw=>aH w (by simp[T.occ,hw])) yI;obtain⟨jt,a2,aG,dv⟩:=ajq bC c1.sm.ru (by rw[c1.sm.keys];exact ae) (by rw[c1.sm.ph];exact jM) (fun w hw=>aH w (by simp[T.occ,hw])) (gS (apE c1.sub) yI);refine⟨max hZ jt,a2,fun n au=>by simp only[T.foldO];rw[aq n Ω];exact aG n Ω,c1.sm.trans dv.sm,fun z ba=>dv.sub z (c1.sub z ba),fun aC=>?_,fun h=>dv.kept (c1.kept h),fun cB=>?_⟩
  ·rcases dv.yes aC with h|⟨w,a1,bp⟩
   ·rcases c1.yes h with h|⟨w,a1,bp⟩
    ·exact .inl h
    ·exact .inr ⟨w,by simp[T.occ,a1],bp⟩
   ·exact .inr ⟨w,by simp[T.occ,a1],bp⟩
  ·have ahm:bC.found=false:=by cases e:bC.found with
    |false=>rfl
    |true=>have:=dv.kept e;rw[cB]at this;cases this
   obtain⟨e1,fY⟩:=c1.no ahm;obtain⟨s1,s2⟩:=dv.no cB;refine⟨fun w hw=>?_,fun r aK dp u hu=>?_⟩
   ·simp only[T.occ,k6]at hw;rcases hw with hw|hw
    ·exact⟨(e1 w hw).1,fun h=>dv.sub _ ((e1 w hw).2 h)⟩
    ·exact s1 w hw
   ·by_cases h:nn bC.seen r
    ·exact⟨(fY r h dp u hu).1,fun cA=>dv.sub _ ((fY r h dp u hu).2 cA)⟩
    ·exact s2 r aK h u hu
 |_=>intro a mG ae jM aH yI;exact⟨0,a,fun n _=>rfl,ja.refl mG,fun z ba=>ba,fun h=>.inl h,fun h=>h,fun _=>⟨fun w hw=>by simp[T.occ]at hw,fun r J U=>absurd J U⟩⟩
theorem IM{ρ:Int->Int}{x:Int}{c:bB}{t:T}(mG:jX c.up ρ)(gV:o8 (cC c.up) c.ph)(aH:∀w,t.occ w=true->w∈cC c.up):
  ∃N a,(∀n,N<=n->qt n x t c []=some a)/\ja ρ c a.c/\(a.found=true↔∃w,t.occ w=true/\nE (jq c.ph ρ) (ρ w) x):=by
 obtain⟨N,a,J,U⟩:=aop (x:=x) gV _ t ⟨c,[],false⟩ mG rfl rfl aH (eu _);refine⟨N+1,a,fun n au=>?_,U.sm,fun h=>?_,fun⟨w,hw,aK⟩=>?_⟩
 ·obtain⟨n',rfl⟩:∃n',n=n'+1:=⟨n-1,Ω⟩;exact J n' Ω
 ·rcases U.yes h with h|h
  ·cases h
  ·exact h
 ·cases e:a.found with
  |true=>rfl
  |false=>
   obtain⟨a1,bp⟩:=U.no e;have key:∀z,nE (jq c.ph ρ) z x->z≠x->((c.ph z).isSome=true->nn a.seen z)->eB:=by
    have:∀z y,nE (jq c.ph ρ) z y->y=x->z≠x->((c.ph z).isSome=true->nn a.seen z)->eB:=by
     intro z y aC;induction aC with
     |refl z=>intro h cd;exact absurd h cd
     | @step z b cq he _ bR=>intro ad cK jw;obtain⟨_,dO,w',lD,_,_⟩:=id he;have ag:=jw (by simp[lD]);obtain⟨g1,g2⟩:=bp z ag (by simp[nn,tg]) b he;exact bR ad g1 g2
    exact fun z ba=>this z x ba rfl
   exact(key _ aK (a1 w hw).1 (a1 w hw).2).elim
end
end Go.Pv
